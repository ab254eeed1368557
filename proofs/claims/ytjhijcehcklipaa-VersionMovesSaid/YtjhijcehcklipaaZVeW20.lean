/-
  VersionMoves, walked.
-/
import Derived.Test.YtjhijcehcklipaaZVeW17
import Derived.Test.YtjhijcehcklipaaZVeW19
namespace Go.Proofs.Ytjhijcehcklipaa.MVe
open Go.RowKit Go.Proofs.YtjhijcehcklipaaW.PrintWords Go.Proofs.YtjhijcehcklipaaW.PrintLast Go.Proofs.YtjhijcehcklipaaW.PrintMore
attribute [local go_sem] max2_int min2_int max_two min_two max_three min_three max_four min_four
set_option linter.unusedVariables false
set_option linter.unusedSimpArgs false

/-- A row of ints in a block. -/
def lvCells (lv : List Int) : Array Value := (lv.map (Value.int .i64)).toArray
def LBlk (w : World) (l : Nat) (lv : List Int) : Prop := w.heap[l]? = some (.cells (lvCells lv) 3 (0, 0))
theorem LBlk.at_ {w : World} {l k : Nat} {lv : List Int} (h : LBlk w l lv) (hk : k < lv.length) : w.cell? ⟨l, k, none⟩ = some (.int .i64 (lv.getD k 0)) ∧ w.frozen? ⟨l, k, none⟩ = false := by
  refine ⟨?_, blk_frozen h k⟩
  rw [blk_cell h k]
  simp [lvCells, hk]
theorem LBlk.set_ {w : World} {l k : Nat} {lv : List Int} (h : LBlk w l lv) (a : Int) : LBlk (w.setCell ⟨l, k, none⟩ (.int .i64 a)) l (lv.set k a) := by
  refine (blk_set h k _).trans ?_
  have e : (lvCells lv).setIfInBounds k (.int .i64 a) = lvCells (lv.set k a) := by simp [lvCells, List.map_set]
  rw [e]
theorem made_cells (m : Nat) : madeCells #[.int .i64 0] m = lvCells (List.replicate m 0) := by
  apply Array.ext
  · simp [lvCells, madeCells]
  · intro i h1 h2
    simp [lvCells, madeCells, Nat.mod_one]
theorem info3 : (Try.prog.info? 3).map (fun i => (i.zero, i.size, i.bytes)) = some (some (.int .i64 0), 1, 8) := by kernel_rfl

theorem lit41_C (W : World) (x : S41) : Kd.C k41 (W.alloc (.cells (enc5 x).toArray 41)) (some ⟨W.heap.size, 0, none⟩) [x].length [x] := by
  have h : Kd.R k41 41 (W.alloc (.cells (enc5 x).toArray 41)) W.heap.size (fun _ => True) (.slice (some ⟨W.heap.size, 0, none⟩) [x].length [x].length) [x] :=
    ⟨fun _ _ => trivial, OwnRow.lit W W.heap.size (one_reps x) (Nat.le_refl _) (by simp)⟩
  obtain ⟨A, c, e, _, hC⟩ := Kd.R_reads h
  injection e with e _ _
  subst e
  exact hC
theorem VInv.set {w0 w : World} {P : Nat → Prop} {g l k : Nat} {v : Ver} {lv : List Int} (h : VInv w0 P g v w) (hL : LBlk w l lv) (hl : w0.heap.size ≤ l) (hne : g ≠ l) (u : Value) : VInv w0 P g v (w.setCell ⟨l, k, none⟩ u) := by
  obtain ⟨h1, h2, vf, h3, h4⟩ := h
  exact ⟨h1.setCell (p := ⟨l, k, none⟩) hl _, h2, vf, blk_far h3 (p := ⟨l, k, none⟩) hne _, Kd.R_set h4 hL (by decide) k u⟩
set_option maxHeartbeats 8000000 in
set_option maxRecDepth 100000 in
theorem VersionMoves.calls (n : Int) (Am : Option Addr) (cm : Nat) (ms : List Int) (w : World) (hms : Kd.C (Kd.int .i64) w Am ms.length ms) (hcm : ms.length ≤ cm) : Calls Try.prog 6 #[.int .i64 n, .slice Am ms.length cm] w fun e w' => e = .returned (.bool true) ∧ Below w.heap.size w w' := by
  have hu41 := Try.underlying41
  have hu45 := Try.underlying45
  have HMS := Aside0.mk hms
  have hmx : ms.length ≤ 9223372036854775807 := Kd.C_max hms
  clear hms
  by_cases hr : 1 ≤ n ∧ n ≤ 20
  · obtain ⟨h1, h2⟩ := hr
    obtain ⟨N, rfl⟩ : ∃ N : Nat, n = (N : Int) := ⟨n.toNat, by omega⟩
    have hN : N ≤ 20 := by omega
    have d1 : decide ((N : Int) < 1) = false := decide_eq_false (by omega)
    have d2 : decide ((N : Int) > 20) = false := decide_eq_false (by omega)
    have hmk := print_make (P := Try.prog) 32 3 .i64 8 Try.underlying32 info3 (by omega) N (by omega)
    go_enter Try.func6, Try.ntmps6
    go_wp2_with (first
      | (go_at_call 20
         refine (Begun20.holds _).mono ?_
         rintro e w1 ⟨rfl, hb⟩
         have HB1 := Aside0.mk hb
         clear hb)
      | (go_at_call 21
         refine (vNew.calls w w1 HB1.out).mono ?_
         rintro e w2 ⟨g, rfl, hg, hI, hb⟩
         have HI2 := Aside0.mk (hI (fun _ => False))
         clear hg hI hb))
    have HL2 := Aside0.mk (show LBlk (w2.alloc (.cells (madeCells #[.int .i64 0] N) 3)) w2.heap.size (List.replicate N 0) by unfold LBlk; rw [← made_cells]; exact blk_new _ _)
    have HI3 := Aside0.mk (HI2.out.step (below_alloc (Below.refl _ _) (.cells (madeCells #[.int .i64 0] N) 3)))
    have hgl := HI2.out.lt
    go_loopw [7, 9] (fun s i wr => ∃ j : Nat, j ≤ N ∧ i = .int .i64 j ∧ Aside0 (Kd.R k41 41 wr w.heap.size (fun k => k ≠ g ∧ k ≠ w2.heap.size) s (tabsM (List.replicate N 0) j)) ∧ Aside0 (VInv w (fun _ => False) g ⟨[], 1, 0, 0⟩ wr) ∧ Aside0 (LBlk wr w2.heap.size (List.replicate N 0))) (fun _ i _ => N - (intOf i).toNat)
    case atStart => exact ⟨0, Nat.zero_le _, rfl, ⟨Kd.R_nil _ _ _ _ _⟩, HI3, HL2⟩
    case round =>
      clear HI3 HL2
      obtain ⟨j, hj, rfl, HR, HI, HL⟩ := hrel
      by_cases hlt : j < N
      · have hw2 : IntKind.i64.wrap (97 + (j : Int)) = 97 + (j : Int) := IntWalk.i64_in _ (by omega)
        have hw3 : IntKind.u8.wrap (97 + (j : Int)) = 97 + (j : Int) := u8_in _ (by omega)
        have hw6 : IntKind.i64.wrap ((j : Int) + 1) = (j : Int) + 1 := IntWalk.i64_in _ (by omega)
        have hcv1 := conv1 wr (97 + (j : Int))
        have HB2 := Aside0.mk (below_alloc (Below.refl wr.heap.size wr) (.cells #[.int .u8 (97 + (j : Int))] 5))
        have hgl1 : g < wr.heap.size := HI.out.lt
        have hgl2 : w2.heap.size < wr.heap.size := blk_lt HL.out
        have HT := Aside0.mk (show tabM (List.replicate N 0) j = ⟨(j : Int) + 1, 0, 0, s1 (97 + j), s1 (97 + j)⟩ by unfold tabM; congr 1; rw [List.getD_eq_getElem?_getD, List.getElem?_replicate, if_pos hlt]; rfl)
        have HS := Aside0.mk (show tabsM (List.replicate N 0) (j + 1) = tabsM (List.replicate N 0) j ++ [⟨(j : Int) + 1, 0, 0, s1 (97 + j), s1 (97 + j)⟩] by rw [← HT.out]; unfold tabsM; rw [List.range_succ, List.map_append]; rfl)
        go_wp2_with (
          at_builtin
          refine Kd.R_append k41 (w0 := w) w.heap.size rfl (.tmp 41) (.tmp 47) 39 41 (.agg #[.int .i64 0, .int .i64 0, .int .i64 0, .string ⟨#[]⟩, .string ⟨#[]⟩]) 56 rfl Try.underlying39 info41 rfl (by decide) (by omega) u7 (tabsM (List.replicate N 0) j) ⟨(j : Int) + 1, 0, 0, s1 (97 + j), s1 (97 + j)⟩ [.int .i64 ((j : Int) + 1), .int .i64 0, .int .i64 0, .string (s1 (97 + (j : Int))), .string (s1 (97 + (j : Int)))] (fun k => k ≠ g ∧ k ≠ w2.heap.size) (fun _ => False) rfl (by first | (go_simp; done) | (go_simp; rfl)) ?aP (fun _ hk => hk.elim) ?aF ?aO ?aB ?aS ?aL ?_
          (case aP => exact k41_mkM _ _ _ ⟨(j : Int) + 1, 0, 0, s1 (97 + j), s1 (97 + j)⟩)
          (case aF => exact fun k hk => by have h1 : wr.heap.size ≤ k := Nat.le_trans HB2.out.size hk; omega)
          (case aO => exact Kd.R_below HR.out HB2.out)
          (case aB => exact below_then HI.out.below HI.out.below.size HB2.out)
          (case aS => exact Nat.le_trans HI.out.below.size HB2.out.size)
          (case aL => rw [tabsM_len]; omega)
          intro v3 w3 ho hb hg hat
          have HR3 := Aside0.mk ho
          have HI3 := Aside0.mk ((HI.out.step HB2.out).grown hg (fun k hk => ⟨own_base (Kd.R_own (Kd.R_below HR.out HB2.out)).choose_spec k hk, (HR.out.1 k hk).1⟩))
          have HL3 := Aside0.mk (show LBlk w3 w2.heap.size (List.replicate N 0) from blk_grown ((HB2.out.block _ (blk_lt HL.out)).trans HL.out) hg (fun e => (HR.out.1 _ e.symm).2 rfl))
          clear ho hb hg hat)
        go_roundw
        case rel => first
          | exact ⟨j + 1, by omega, by go_num, ⟨by rw [HS.out]; exact HR3.out⟩, HI3, HL3⟩
          | exact ⟨_, _, _, _, _, _, _, _, _, _, _, _, _, _, _, _, _, _, _, _, ⟨j + 1, by omega, by go_num, ⟨by rw [HS.out]; exact HR3.out⟩, HI3, HL3⟩, rfl⟩
          | (trace_state; fail)
        case measure => simp [intOf]; omega
      · obtain rfl : j = N := by omega
        obtain ⟨A, c, e, hcap, hC⟩ := Kd.R_reads HR.out
        subst e
        have HC := Aside0.mk hC
        have hw6 : IntKind.i64.wrap ((j : Int) + 1) = (j : Int) + 1 := IntWalk.i64_in _ (by omega)
        have hgl2 : w2.heap.size < wr.heap.size := blk_lt HL.out
        clear hC
        go_wp2_with (
          go_at_call 22
          refine (Apply.calls w g ⟨[], 1, 0, 0⟩ ((j : Int) + 1) 0 0 A none c 0 (tabsM (List.replicate j 0) j) [] _ (HI.out.wide (fun _ hk => hk.elim)) (by simp) HC.out hcap (Kd.C_nil _ _) (Nat.le_refl _) (by simp)).mono ?_
          rintro e w4 h
          rw [start_ap hN] at h
          rcases h with ⟨h, _⟩ | ⟨v', h, rfl, hI4, hk4⟩
          · cases h
          cases h
          have HI4 := Aside0.mk hI4
          have HL4 := Aside0.mk (show LBlk w4 w2.heap.size (List.replicate j 0) from (hk4.2 _ hgl2 (fun e => by omega)).trans HL.out)
          have HR4 := Aside0.mk (Kd.R_step HR.out (fun k ho hk => hk4.2 k hk (fun e => ho.1 e)))
          clear hI4 hk4)
        have HWG := Aside0.mk (show w.heap.size ≤ w2.heap.size ∧ g ≠ w2.heap.size from ⟨HI2.out.below.size, Nat.ne_of_lt HI2.out.lt⟩)
        clear HI HL HR HC hgl2 hw6 hcap
        go_loopw [11] (fun i wr => ∃ (p : Nat) (lv : List Int) (F : List S41), p ≤ ms.length ∧ p ≤ 30 ∧ i = .int .i64 p ∧ lv.length = j ∧ Aside0 (∀ q, q < j → 0 ≤ lv.getD q 0 ∧ lv.getD q 0 ≤ 4) ∧ Aside0 (F.Perm (tabsM lv j)) ∧ Aside0 (VInv w (fun k => k ≠ g) g ⟨F, (j : Int) + 1, 0, 0⟩ wr) ∧ Aside0 (LBlk wr w2.heap.size lv) ∧ Aside0 (Kd.R k41 41 wr w.heap.size (fun k => k ≠ g ∧ k ≠ w2.heap.size) (.slice A (tabsM (List.replicate j 0) j).length c) (tabsM (List.replicate j 0) j))) (fun i _ => 30 - (intOf i).toNat)
        case atStart =>
          exact ⟨0, List.replicate j 0, _, Nat.zero_le _, Nat.zero_le _, rfl, List.length_replicate, ⟨fun q hq => by rw [List.getD_eq_getElem?_getD, List.getElem?_replicate, if_pos hq]; exact ⟨Int.le_refl _, by decide⟩⟩, ⟨List.Perm.refl _⟩, HI4, HL4, HR4⟩
        case round =>
          clear HI4 HL4 HR4
          obtain ⟨p, lv, F, hp1, hp2, rfl, hlv, HLB, HF, HI, HL, HR⟩ := hrel
          by_cases hpa : p < ms.length
          · by_cases hpb : p < 30
            · obtain ⟨ad, ea, hx0⟩ := Kd.at_int (Kd.C_below HMS.out HI.out.below) (p : Int) (by omega) (by omega)
              cases ea
              rw [Int.toNat_natCast] at hx0
              generalize rd ms (p : Int) = y at hx0
              have hpb' : (p : Int) < 30 := by omega
              obtain ⟨z, hz⟩ : ∃ z, y.tmod (j : Int) = z := ⟨_, rfl⟩
              have hz1 : z < (j : Int) := hz ▸ Int.tmod_lt_of_pos y (by omega)
              have hz2 : -(j : Int) < z := hz ▸ Int.lt_tmod_of_pos y (by omega)
              by_cases hzn : z < 0
              · obtain ⟨K, hKz⟩ : ∃ K : Nat, -z = (K : Int) := ⟨(-z).toNat, by omega⟩
                have hK : K < j := by omega
                have hzw : wrap64 (-z) = (K : Int) := by rw [hKz]; exact IntWalk.wrap64_in _ (by omega)
                have hzd : decide (z < 0) = true := decide_eq_true hzn
                clear hz1 hz2 hKz
                obtain ⟨hq1, hq2⟩ := HL.out.at_ (k := K) (by omega)
                have HQB := Aside0.mk (HLB.out K hK)
                obtain ⟨a, ha⟩ : ∃ a, a = lv.getD K 0 := ⟨_, rfl⟩
                rw [← ha] at hq1 HQB
                by_cases h4 : a = 4
                · subst h4
                  go_wp2
                  go_roundw
                  case rel => first
                    | exact ⟨p + 1, lv, F, by omega, by omega, by go_num, hlv, HLB, HF, HI, HL, HR⟩
                    | (trace_state; fail)
                  case measure => simp [intOf]; omega
                · have h4b : (a == 4) = false := beq_eq_false_iff_ne.mpr h4
                  have hab := HQB.out
                  have hwa : IntKind.i64.wrap (a + 1) = a + 1 := IntWalk.i64_in _ (by omega)
                  have hgl1 : g < wr.heap.size := HI.out.lt
                  have hgl2 : w2.heap.size < wr.heap.size := blk_lt HL.out
                  have HA := Aside0.mk ha
                  have hW1 : ∃ W1, W1 = wr.setCell ⟨w2.heap.size, K, none⟩ (.int .i64 (a + 1)) := ⟨_, rfl⟩
                  obtain ⟨W1, hW1⟩ := hW1
                  have HL1 := Aside0.mk (show LBlk W1 w2.heap.size (lv.set K (lv.getD K 0 + 1)) by rw [hW1, ← ha]; exact HL.out.set_ _)
                  have HR1 := Aside0.mk (show Kd.R k41 41 W1 w.heap.size (fun k => k ≠ g ∧ k ≠ w2.heap.size) (.slice A (tabsM (List.replicate j 0) j).length c) (tabsM (List.replicate j 0) j) by rw [hW1]; exact Kd.R_far HR.out (fun k hk => hk.2) _)
                  have HI1 := Aside0.mk (show VInv w (fun k => k ≠ g) g ⟨F, (j : Int) + 1, 0, 0⟩ W1 by rw [hW1]; exact HI.out.set HL.out HWG.out.1 HWG.out.2 _)
                  have hs1 : W1.heap.size = wr.heap.size := by rw [hW1]; simp
                  obtain ⟨A', c', e1, _, hC1⟩ := Kd.R_reads HR1.out
                  have e2 : A' = A := by injection e1 with h _ _; exact h.symm
                  subst e2
                  clear e1
                  have hKt : K < (tabsM (List.replicate j 0) j).length := by rw [tabsM_len]; exact hK
                  obtain ⟨ad2, ea2, y0, y1, y2, y3, y4⟩ := at_T41 hC1 (K : Int) (by omega) (by omega)
                  subst ea2
                  have e : rd_T41 (tabsM (List.replicate j 0) j) (K : Int) = ⟨(K : Int) + 1, 0, 0, s1 (97 + K), s1 (97 + K)⟩ := by
                    unfold rd_T41
                    rw [Int.toNat_natCast, List.getD_eq_getElem?_getD, List.getElem?_eq_getElem hKt, Option.getD_some]
                    have : (tabsM (List.replicate j 0) j)[K] = tabM (List.replicate j 0) K := by simp [tabsM]
                    rw [this]
                    unfold tabM
                    congr 1
                    rw [List.getD_eq_getElem?_getD, List.getElem?_replicate, if_pos hK]; rfl
                  rw [e, Int.toNat_natCast] at y0 y1 y2 y3 y4
                  have y5 : W1.cell? ⟨w2.heap.size, K, none⟩ = some (.int .i64 (a + 1)) := by
                    have h := (HL1.out.at_ (k := K) (by rw [List.length_set]; omega)).1
                    rw [h, List.getD_eq_getElem?_getD, List.getElem?_set_self (by omega), Option.getD_some, ← ha]
                  have hlt5 := World.block_lt_of_cell? W1 _ y5
                  obtain ⟨f, hf⟩ : ∃ f, f = Obj.cells #[.int .i64 ((K : Int) + 1), .int .i64 (a + 1), .int .i64 0, .string (s1 (97 + K)), .string (s1 (97 + K))] 41 := ⟨_, rfl⟩
                  obtain ⟨d, hd⟩ : ∃ d, d = Obj.cells #[.int .i64 ((K : Int) + 1)] 2 := ⟨_, rfl⟩
                  have hBA : Below W1.heap.size W1 (((W1.alloc f).alloc d).alloc f) := below_alloc (below_alloc (below_alloc (Below.refl _ _) f) d) f
                  have HI4 := Aside0.mk (HI1.out.step hBA)
                  have HCX := Aside0.mk (show Kd.C k41 (((W1.alloc f).alloc d).alloc f) (some ⟨wr.heap.size + 1 + 1, 0, none⟩) [(⟨(K : Int) + 1, a + 1, 0, s1 (97 + K), s1 (97 + K)⟩ : S41)].length [⟨(K : Int) + 1, a + 1, 0, s1 (97 + K), s1 (97 + K)⟩] by
                    have h := lit41_C ((W1.alloc f).alloc d) ⟨(K : Int) + 1, a + 1, 0, s1 (97 + K), s1 (97 + K)⟩
                    have e0 : ((W1.alloc f).alloc d).heap.size = wr.heap.size + 1 + 1 := by simp [hs1]
                    rw [e0] at h
                    rw [hf] at h ⊢
                    exact h)
                  have HCD := Aside0.mk (show Kd.C (Kd.int .i64) (((W1.alloc f).alloc d).alloc f) (some ⟨wr.heap.size + 1, 0, none⟩) [(K : Int) + 1].length [(K : Int) + 1] by
                    have h := litI_C (W1.alloc f) [(K : Int) + 1] (by simp)
                    have e0 : (W1.alloc f).heap.size = wr.heap.size + 1 := by simp [hs1]
                    rw [e0] at h
                    rw [hd]
                    exact Kd.C_below h (below_alloc (Below.refl _ _) f))
                  have HL4 := Aside0.mk (show LBlk (((W1.alloc f).alloc d).alloc f) w2.heap.size (lv.set K (lv.getD K 0 + 1)) from (hBA.block _ (blk_lt HL1.out)).trans HL1.out)
                  have HR4 := Aside0.mk (Kd.R_below HR1.out hBA)
                  have HTK := Aside0.mk (show tabM (lv.set K (lv.getD K 0 + 1)) K = ⟨(K : Int) + 1, a + 1, 0, s1 (97 + K), s1 (97 + K)⟩ by
                    unfold tabM; congr 1; rw [List.getD_eq_getElem?_getD, List.getElem?_set_self (by omega), Option.getD_some, ← ha])
                  obtain ⟨F', hap, hpm⟩ := moves_ap HF.out hN hK hlv (by rw [← ha]; omega) (by rw [← ha]; omega)
                  rw [HTK.out] at hap
                  have HAP := Aside0.mk hap
                  have HPM := Aside0.mk hpm
                  have HFL := Aside0.mk (show F.length ≤ 200 by rw [HF.out.length_eq, tabsM_len]; omega)
                  have HLB' := Aside0.mk (show ∀ q, q < j → 0 ≤ (lv.set K (lv.getD K 0 + 1)).getD q 0 ∧ (lv.set K (lv.getD K 0 + 1)).getD q 0 ≤ 4 by
                    intro q hq
                    by_cases hqK : q = K
                    · subst hqK
                      rw [List.getD_eq_getElem?_getD, List.getElem?_set_self (by omega), Option.getD_some, ← ha]; omega
                    · rw [List.getD_eq_getElem?_getD, List.getElem?_set_ne (Ne.symm hqK), ← List.getD_eq_getElem?_getD]; exact HLB.out q hq)
                  have hlv' : (lv.set K (lv.getD K 0 + 1)).length = j := by rw [List.length_set]; exact hlv
                  generalize lv.set K (lv.getD K 0 + 1) = lv' at HL4 HPM HLB' hlv'
                  clear hBA hap hpm
                  rw [hf, hd, hW1] at HI4 HCX HCD HL4 HR4
                  rw [hW1] at y0 y1 y2 y3 y4 y5 hlt5
                  clear hW1 e hC1 ha HL1 HR1 HI1 HTK hf hd
                  go_wp2_with (
                    go_at_call 22
                    refine (Apply.calls w g ⟨F, (j : Int) + 1, 0, 0⟩ 0 0 0 (some ⟨wr.heap.size + 1 + 1, 0, none⟩) (some ⟨wr.heap.size + 1, 0, none⟩) 1 1 [⟨(K : Int) + 1, a + 1, 0, s1 (97 + K), s1 (97 + K)⟩] [(K : Int) + 1] _ HI4.out HFL.out HCX.out (Nat.le_refl _) HCD.out (Nat.le_refl _) (by simp)).mono ?_
                    rintro e w4 h
                    rw [HAP.out] at h
                    rcases h with ⟨h, _⟩ | ⟨v', h, rfl, hI5, hk5⟩
                    · cases h
                    cases h
                    have HI5 := Aside0.mk hI5
                    have HL5 := Aside0.mk (show LBlk w4 w2.heap.size lv' from (hk5.2 _ (blk_lt HL4.out) (fun e => HWG.out.2 e.symm)).trans HL4.out)
                    have HR5 := Aside0.mk (Kd.R_step HR4.out (fun k ho hk => hk5.2 k hk (fun e => ho.1 e)))
                    clear hI5 hk5 y0 y1 y2 y3 y4 y5 hlt5 hq1 hq2 hx0)
                  go_roundw
                  case rel => first
                    | exact ⟨p + 1, lv', F', by omega, by omega, by go_num, hlv', HLB', HPM, HI5, HL5, HR5⟩
                    | (trace_state; fail)
                  case measure => simp [intOf]; omega
              · obtain ⟨K, rfl⟩ : ∃ K : Nat, z = (K : Int) := ⟨z.toNat, by omega⟩
                have hK : K < j := by omega
                clear hz1 hz2
                obtain ⟨hq1, hq2⟩ := HL.out.at_ (k := K) (by omega)
                have HQB := Aside0.mk (HLB.out K hK)
                obtain ⟨a, ha⟩ : ∃ a, a = lv.getD K 0 := ⟨_, rfl⟩
                rw [← ha] at hq1 HQB
                by_cases h4 : a = 4
                · subst h4
                  go_wp2
                  go_roundw
                  case rel => first
                    | exact ⟨p + 1, lv, F, by omega, by omega, by go_num, hlv, HLB, HF, HI, HL, HR⟩
                    | (trace_state; fail)
                  case measure => simp [intOf]; omega
                · have h4b : (a == 4) = false := beq_eq_false_iff_ne.mpr h4
                  have hab := HQB.out
                  have hwa : IntKind.i64.wrap (a + 1) = a + 1 := IntWalk.i64_in _ (by omega)
                  have hgl1 : g < wr.heap.size := HI.out.lt
                  have hgl2 : w2.heap.size < wr.heap.size := blk_lt HL.out
                  have HA := Aside0.mk ha
                  have hW1 : ∃ W1, W1 = wr.setCell ⟨w2.heap.size, K, none⟩ (.int .i64 (a + 1)) := ⟨_, rfl⟩
                  obtain ⟨W1, hW1⟩ := hW1
                  have HL1 := Aside0.mk (show LBlk W1 w2.heap.size (lv.set K (lv.getD K 0 + 1)) by rw [hW1, ← ha]; exact HL.out.set_ _)
                  have HR1 := Aside0.mk (show Kd.R k41 41 W1 w.heap.size (fun k => k ≠ g ∧ k ≠ w2.heap.size) (.slice A (tabsM (List.replicate j 0) j).length c) (tabsM (List.replicate j 0) j) by rw [hW1]; exact Kd.R_far HR.out (fun k hk => hk.2) _)
                  have HI1 := Aside0.mk (show VInv w (fun k => k ≠ g) g ⟨F, (j : Int) + 1, 0, 0⟩ W1 by rw [hW1]; exact HI.out.set HL.out HWG.out.1 HWG.out.2 _)
                  have hs1 : W1.heap.size = wr.heap.size := by rw [hW1]; simp
                  obtain ⟨A', c', e1, _, hC1⟩ := Kd.R_reads HR1.out
                  have e2 : A' = A := by injection e1 with h _ _; exact h.symm
                  subst e2
                  clear e1
                  have hKt : K < (tabsM (List.replicate j 0) j).length := by rw [tabsM_len]; exact hK
                  obtain ⟨ad2, ea2, y0, y1, y2, y3, y4⟩ := at_T41 hC1 (K : Int) (by omega) (by omega)
                  subst ea2
                  have e : rd_T41 (tabsM (List.replicate j 0) j) (K : Int) = ⟨(K : Int) + 1, 0, 0, s1 (97 + K), s1 (97 + K)⟩ := by
                    unfold rd_T41
                    rw [Int.toNat_natCast, List.getD_eq_getElem?_getD, List.getElem?_eq_getElem hKt, Option.getD_some]
                    have : (tabsM (List.replicate j 0) j)[K] = tabM (List.replicate j 0) K := by simp [tabsM]
                    rw [this]
                    unfold tabM
                    congr 1
                    rw [List.getD_eq_getElem?_getD, List.getElem?_replicate, if_pos hK]; rfl
                  rw [e, Int.toNat_natCast] at y0 y1 y2 y3 y4
                  have y5 : W1.cell? ⟨w2.heap.size, K, none⟩ = some (.int .i64 (a + 1)) := by
                    have h := (HL1.out.at_ (k := K) (by rw [List.length_set]; omega)).1
                    rw [h, List.getD_eq_getElem?_getD, List.getElem?_set_self (by omega), Option.getD_some, ← ha]
                  have hlt5 := World.block_lt_of_cell? W1 _ y5
                  obtain ⟨f, hf⟩ : ∃ f, f = Obj.cells #[.int .i64 ((K : Int) + 1), .int .i64 (a + 1), .int .i64 0, .string (s1 (97 + K)), .string (s1 (97 + K))] 41 := ⟨_, rfl⟩
                  obtain ⟨d, hd⟩ : ∃ d, d = Obj.cells #[.int .i64 ((K : Int) + 1)] 2 := ⟨_, rfl⟩
                  have hBA : Below W1.heap.size W1 (((W1.alloc f).alloc d).alloc f) := below_alloc (below_alloc (below_alloc (Below.refl _ _) f) d) f
                  have HI4 := Aside0.mk (HI1.out.step hBA)
                  have HCX := Aside0.mk (show Kd.C k41 (((W1.alloc f).alloc d).alloc f) (some ⟨wr.heap.size + 1 + 1, 0, none⟩) [(⟨(K : Int) + 1, a + 1, 0, s1 (97 + K), s1 (97 + K)⟩ : S41)].length [⟨(K : Int) + 1, a + 1, 0, s1 (97 + K), s1 (97 + K)⟩] by
                    have h := lit41_C ((W1.alloc f).alloc d) ⟨(K : Int) + 1, a + 1, 0, s1 (97 + K), s1 (97 + K)⟩
                    have e0 : ((W1.alloc f).alloc d).heap.size = wr.heap.size + 1 + 1 := by simp [hs1]
                    rw [e0] at h
                    rw [hf] at h ⊢
                    exact h)
                  have HCD := Aside0.mk (show Kd.C (Kd.int .i64) (((W1.alloc f).alloc d).alloc f) (some ⟨wr.heap.size + 1, 0, none⟩) [(K : Int) + 1].length [(K : Int) + 1] by
                    have h := litI_C (W1.alloc f) [(K : Int) + 1] (by simp)
                    have e0 : (W1.alloc f).heap.size = wr.heap.size + 1 := by simp [hs1]
                    rw [e0] at h
                    rw [hd]
                    exact Kd.C_below h (below_alloc (Below.refl _ _) f))
                  have HL4 := Aside0.mk (show LBlk (((W1.alloc f).alloc d).alloc f) w2.heap.size (lv.set K (lv.getD K 0 + 1)) from (hBA.block _ (blk_lt HL1.out)).trans HL1.out)
                  have HR4 := Aside0.mk (Kd.R_below HR1.out hBA)
                  have HTK := Aside0.mk (show tabM (lv.set K (lv.getD K 0 + 1)) K = ⟨(K : Int) + 1, a + 1, 0, s1 (97 + K), s1 (97 + K)⟩ by
                    unfold tabM; congr 1; rw [List.getD_eq_getElem?_getD, List.getElem?_set_self (by omega), Option.getD_some, ← ha])
                  obtain ⟨F', hap, hpm⟩ := moves_ap HF.out hN hK hlv (by rw [← ha]; omega) (by rw [← ha]; omega)
                  rw [HTK.out] at hap
                  have HAP := Aside0.mk hap
                  have HPM := Aside0.mk hpm
                  have HFL := Aside0.mk (show F.length ≤ 200 by rw [HF.out.length_eq, tabsM_len]; omega)
                  have HLB' := Aside0.mk (show ∀ q, q < j → 0 ≤ (lv.set K (lv.getD K 0 + 1)).getD q 0 ∧ (lv.set K (lv.getD K 0 + 1)).getD q 0 ≤ 4 by
                    intro q hq
                    by_cases hqK : q = K
                    · subst hqK
                      rw [List.getD_eq_getElem?_getD, List.getElem?_set_self (by omega), Option.getD_some, ← ha]; omega
                    · rw [List.getD_eq_getElem?_getD, List.getElem?_set_ne (Ne.symm hqK), ← List.getD_eq_getElem?_getD]; exact HLB.out q hq)
                  have hlv' : (lv.set K (lv.getD K 0 + 1)).length = j := by rw [List.length_set]; exact hlv
                  generalize lv.set K (lv.getD K 0 + 1) = lv' at HL4 HPM HLB' hlv'
                  clear hBA hap hpm
                  rw [hf, hd, hW1] at HI4 HCX HCD HL4 HR4
                  rw [hW1] at y0 y1 y2 y3 y4 y5 hlt5
                  clear hW1 e hC1 ha HL1 HR1 HI1 HTK hf hd
                  go_wp2_with (
                    go_at_call 22
                    refine (Apply.calls w g ⟨F, (j : Int) + 1, 0, 0⟩ 0 0 0 (some ⟨wr.heap.size + 1 + 1, 0, none⟩) (some ⟨wr.heap.size + 1, 0, none⟩) 1 1 [⟨(K : Int) + 1, a + 1, 0, s1 (97 + K), s1 (97 + K)⟩] [(K : Int) + 1] _ HI4.out HFL.out HCX.out (Nat.le_refl _) HCD.out (Nat.le_refl _) (by simp)).mono ?_
                    rintro e w4 h
                    rw [HAP.out] at h
                    rcases h with ⟨h, _⟩ | ⟨v', h, rfl, hI5, hk5⟩
                    · cases h
                    cases h
                    have HI5 := Aside0.mk hI5
                    have HL5 := Aside0.mk (show LBlk w4 w2.heap.size lv' from (hk5.2 _ (blk_lt HL4.out) (fun e => HWG.out.2 e.symm)).trans HL4.out)
                    have HR5 := Aside0.mk (Kd.R_step HR4.out (fun k ho hk => hk5.2 k hk (fun e => ho.1 e)))
                    clear hI5 hk5 y0 y1 y2 y3 y4 y5 hlt5 hq1 hq2 hx0)
                  go_roundw
                  case rel => first
                    | exact ⟨p + 1, lv', F', by omega, by omega, by go_num, hlv', HLB', HPM, HI5, HL5, HR5⟩
                    | (trace_state; fail)
                  case measure => simp [intOf]; omega
            · have hpb' : ¬ (p : Int) < 30 := by omega
              rename World => wA
              have HZ := Aside0.mk (show F.length ≤ 1000000 by rw [HF.out.length_eq, tabsM_len]; omega)
              have HBW := HI.out.below
              have HBR := Aside0.mk (Below.refl wA.heap.size wA)
              go_wp2
              go_loopw [14] (fun i wr => ∃ t : Nat, t ≤ 5 ∧ i = .int .i64 t ∧ Aside0 (Below wA.heap.size wA wr)) (fun i _ => 5 - (intOf i).toNat)
              case atStart => exact ⟨0, Nat.zero_le _, rfl, HBR⟩
              case round =>
                clear HBR
                rename World => wB
                obtain ⟨t, ht, rfl, HB⟩ := hrel
                by_cases ht5 : t < 5
                · have HLZ := Aside0.mk (show LBlk wB w2.heap.size lv from (HB.out.block _ (blk_lt HL.out)).trans HL.out)
                  have ht5' : (t : Int) < 5 := by omega
                  go_wp2
                  go_loopw [15, 16] (fun s i wr => ∃ q : Nat, q ≤ j ∧ s = .int .i64 (cntM lv t q) ∧ i = .int .i64 q ∧ Aside0 (Below wA.heap.size wA wr)) (fun _ i _ => j - (intOf i).toNat)
                  case atStart => exact ⟨0, Nat.zero_le _, rfl, rfl, HB⟩
                  case round =>
                    clear HB HLZ
                    obtain ⟨q, hq, rfl, rfl, HB⟩ := hrel
                    by_cases hqj : q < j
                    · obtain ⟨hq1, hq2⟩ := LBlk.at_ (k := q) (show LBlk wr w2.heap.size lv from (HB.out.block _ (blk_lt HL.out)).trans HL.out) (by omega)
                      have hle := cntM_le lv t q
                      have HC1 := Aside0.mk (show cntM lv t (q + 1) = cntM lv t q + (if lv.getD q 0 = (t : Int) then 1 else 0) from rfl)
                      obtain ⟨a, ha⟩ : ∃ a, a = lv.getD q 0 := ⟨_, rfl⟩
                      rw [← ha] at hq1 HC1
                      clear ha
                      by_cases hat : a = (t : Int)
                      · have e1 : (a == (t : Int)) = true := beq_iff_eq.2 hat
                        rw [if_pos hat] at HC1
                        clear hat
                        go_wp2
                        go_roundw
                        case rel => first
                          | exact ⟨q + 1, by omega, by rw [HC1.out]; go_num, by go_num, HB⟩
                          | (trace_state; fail)
                        case measure => simp [intOf]; omega
                      · have e1 : (a == (t : Int)) = false := beq_eq_false_iff_ne.mpr hat
                        rw [if_neg hat] at HC1
                        go_wp2
                        go_roundw
                        case rel => first
                          | exact ⟨q + 1, by omega, by rw [HC1.out]; rfl, by go_num, HB⟩
                          | (trace_state; fail)
                        case measure => simp [intOf]; omega
                    · obtain rfl : q = j := by omega
                      go_wp2_with (
                        go_at_call 24
                        refine (Level.calls w (fun k => k ≠ g) g ⟨F, (q : Int) + 1, 0, 0⟩ (t : Int) _ (HI.out.step HB.out) HZ.out).mono ?_
                        rintro e w5 ⟨vf, ys, rfl, hR5, hb5, hL5⟩
                        obtain ⟨A5, c5, e5, _, hC5⟩ := Kd.R_reads hR5
                        subst e5
                        have HC5 := Aside0.mk hC5
                        have hyl : ys.length = cntM lv t q := lev_len HF.out hL5
                        have HLO := Aside0.mk (fun (i : Nat) (hi : i + 1 < ys.length) => lev_ord hN HF.out hL5 hi)
                        have HB5 := Aside0.mk (below_step HB.out hb5)
                        have hle := cntM_le lv t q
                        clear hR5 hC5 hb5 hL5)
                      go_loopw [18] (fun i wr => ∃ m : Nat, (m ≤ ys.length ∨ m = 0) ∧ i = .int .i64 ((m : Int) + 1) ∧ Aside0 (Below w5.heap.size w5 wr)) (fun i _ => ys.length - (intOf i).toNat)
                      case atStart => exact ⟨0, .inr rfl, rfl, ⟨Below.refl _ _⟩⟩
                      case round =>
                        obtain ⟨m, hm, rfl, HB⟩ := hrel
                        by_cases hmy : m + 1 < ys.length
                        · obtain ⟨ad3, ea3, x0, x1, x2, x3, x4⟩ := at_T41 (Kd.C_below HC5.out HB.out) ((m + 1 : Nat) : Int) (by omega) (by omega)
                          obtain ⟨ad4, ea4, v0, v1, v2, v3, v4⟩ := at_T41 (Kd.C_below HC5.out HB.out) (m : Int) (by omega) (by omega)
                          have ex : rd_T41 ys ((m + 1 : Nat) : Int) = ys[m + 1] := by unfold rd_T41; rw [Int.toNat_natCast, List.getD_eq_getElem?_getD, List.getElem?_eq_getElem hmy, Option.getD_some]
                          have ev : rd_T41 ys (m : Int) = ys[m]'(by omega) := by unfold rd_T41; rw [Int.toNat_natCast, List.getD_eq_getElem?_getD, List.getElem?_eq_getElem (by omega), Option.getD_some]
                          rw [ex, Int.toNat_natCast] at x0 x1 x2 x3 x4
                          rw [ev, Int.toNat_natCast] at v0 v1 v2 v3 v4
                          obtain ⟨o1, o2⟩ := HLO.out m hmy
                          obtain ⟨X, hX⟩ : ∃ X, ys[m + 1] = X := ⟨_, rfl⟩
                          obtain ⟨Y, hY⟩ : ∃ Y, ys[m]'(by omega) = Y := ⟨_, rfl⟩
                          rw [hX] at x0 x1 x2 x3 x4
                          rw [hY] at v0 v1 v2 v3 v4
                          rw [hX, hY] at o1 o2
                          subst ea3
                          have e34 : ad4 = ad3 := (Option.some.inj ea4).symm
                          subst e34
                          clear ex ev hX hY ea4 x1 x2 x4 v1 v2 v4
                          have hwm : IntKind.i64.wrap ((m : Int) + 1 - 1) = (m : Int) := by rw [show (m : Int) + 1 - 1 = (m : Int) by omega]; exact IntWalk.i64_in _ (by omega)
                          have htm : ((m : Int) + 1).toNat = m + 1 := by omega
                          have hmi : (m : Int) + 1 < (ys.length : Int) := by omega
                          have hmi2 : (m : Int) < (ys.length : Int) := by omega
                          have hmi3 : (m : Int) + 1 < (cntM lv (t : Int) q : Int) := by rw [← hyl]; exact hmi
                          have hmi4 : (m : Int) < (cntM lv (t : Int) q : Int) := by rw [← hyl]; exact hmi2
                          have hm0 : (0 : Int) ≤ (m : Int) + 1 := by omega
                          have hwm2 : IntKind.i64.wrap (m : Int) = (m : Int) := IntWalk.i64_in _ (by omega)
                          have hwm3 : wrap64 (m : Int) = (m : Int) := IntWalk.wrap64_in _ (by omega)
                          have hwm4 : wrap64 ((m : Int) + 1 - 1) = (m : Int) := by rw [show (m : Int) + 1 - 1 = (m : Int) by omega]; exact hwm3
                          by_cases ht0 : t = 0
                          · have e1 : ((t : Int) == 0) = true := beq_iff_eq.2 (by omega)
                            have e4 : (0 < t) = False := eq_false (by omega)
                            have e2 : decide ((t : Int) > 0) = false := decide_eq_false (by omega)
                            have e3 : decide (X.f0 ≥ Y.f0) = false := decide_eq_false (by have := o1 (by omega); omega)
                            clear o1 o2 ht0
                            go_wp2
                            refine wp_region_quiet_lit (by kernel_rfl) (by kernel_rfl) ?_
                            generalize haa : Act.mk _ _ = aa
                            repeat (
                              refine wpQuiet_step (fun K hK => ?_)
                              have HK9 := Aside0.mk hK
                              clear hK
                              subst haa
                              go_simp
                              generalize haa : Act.mk _ _ = aa
                              refine HK9.out _ ?_
                              clear HK9 K)
                            refine wpQuiet_nil ?_
                            intro _ hw'
                            obtain ⟨nq, hw2⟩ := hw'
                            subst hw2
                            clear x0 x3 v0 v3 hwm hwm2 hwm3 hwm4 htm hmi hmi2 hmi3 hmi4 hm0 e1 e2 e3 e4
                            have hwn : IntKind.i64.wrap ((m : Int) + 1 + 1) = (m : Int) + 1 + 1 := IntWalk.i64_in _ (by omega)
                            subst haa
                            go_wp2
                            go_roundw
                            case rel => first
                              | exact ⟨m + 1, .inl (by omega), by simp, ⟨pw_below_drewN HB.out _⟩⟩
                              | (trace_state; fail)
                            case measure => simp [intOf]; omega
                          · have e1 : ((t : Int) == 0) = false := beq_eq_false_iff_ne.mpr (by omega)
                            have e4 : 0 < t := by omega
                            have e2 : decide ((t : Int) > 0) = true := decide_eq_true (by omega)
                            have e3 := o2 (by omega)
                            unfold leS at e3
                            clear o1 o2 ht0
                            go_wp2
                            refine wp_region_quiet_lit (by kernel_rfl) (by kernel_rfl) ?_
                            generalize haa : Act.mk _ _ = aa
                            repeat (
                              refine wpQuiet_step (fun K hK => ?_)
                              have HK9 := Aside0.mk hK
                              clear hK
                              subst haa
                              go_simp
                              generalize haa : Act.mk _ _ = aa
                              refine HK9.out _ ?_
                              clear HK9 K)
                            refine wpQuiet_nil ?_
                            intro _ hw'
                            obtain ⟨nq, hw2⟩ := hw'
                            subst hw2
                            clear x0 x3 v0 v3 hwm hwm2 hwm3 hwm4 htm hmi hmi2 hmi3 hmi4 hm0 e1 e2 e3 e4
                            have hwn : IntKind.i64.wrap ((m : Int) + 1 + 1) = (m : Int) + 1 + 1 := IntWalk.i64_in _ (by omega)
                            subst haa
                            go_wp2
                            go_roundw
                            case rel => first
                              | exact ⟨m + 1, .inl (by omega), by simp, ⟨pw_below_drewN HB.out _⟩⟩
                              | (trace_state; fail)
                            case measure => simp [intOf]; omega
                        · have hmi : ¬ (m : Int) + 1 < (ys.length : Int) := by omega
                          go_wp2
                          go_roundw
                          case rel => first
                            | exact ⟨t + 1, by omega, by go_num, ⟨below_step HB5.out HB.out⟩⟩
                            | (trace_state; fail)
                          case measure => simp [intOf]; omega
                · obtain rfl : t = 5 := by omega
                  go_wp2_with (
                    go_at_call 25
                    refine (All.calls w (fun k => k ≠ g) g ⟨F, (j : Int) + 1, 0, 0⟩ _ (HI.out.step HB.out) HZ.out (Nat.lt_of_lt_of_le HI.out.lt HB.out.size)).mono ?_
                    rintro e w5 ⟨vf, zs, rfl, hR5, hb5, hA5⟩
                    obtain ⟨A5, c5, e5⟩ := Kd.R_slice hR5
                    rw [all_len HF.out HLB.out hA5] at e5
                    subst e5
                    have HB5 := Aside0.mk (below_step HB.out hb5)
                    clear hR5 hb5 hA5)
                  go_ret
                  exact ⟨rfl, below_then HI.out.below HI.out.below.size HB5.out⟩
          · have hpa' : ¬ (p : Int) < (ms.length : Int) := by omega
            rename World => wA
            have HZ := Aside0.mk (show F.length ≤ 1000000 by rw [HF.out.length_eq, tabsM_len]; omega)
            have HBW := HI.out.below
            have HBR := Aside0.mk (Below.refl wA.heap.size wA)
            go_wp2
            go_loopw [14] (fun i wr => ∃ t : Nat, t ≤ 5 ∧ i = .int .i64 t ∧ Aside0 (Below wA.heap.size wA wr)) (fun i _ => 5 - (intOf i).toNat)
            case atStart => exact ⟨0, Nat.zero_le _, rfl, HBR⟩
            case round =>
              clear HBR
              rename World => wB
              obtain ⟨t, ht, rfl, HB⟩ := hrel
              by_cases ht5 : t < 5
              · have HLZ := Aside0.mk (show LBlk wB w2.heap.size lv from (HB.out.block _ (blk_lt HL.out)).trans HL.out)
                have ht5' : (t : Int) < 5 := by omega
                go_wp2
                go_loopw [15, 16] (fun s i wr => ∃ q : Nat, q ≤ j ∧ s = .int .i64 (cntM lv t q) ∧ i = .int .i64 q ∧ Aside0 (Below wA.heap.size wA wr)) (fun _ i _ => j - (intOf i).toNat)
                case atStart => exact ⟨0, Nat.zero_le _, rfl, rfl, HB⟩
                case round =>
                  clear HB HLZ
                  obtain ⟨q, hq, rfl, rfl, HB⟩ := hrel
                  by_cases hqj : q < j
                  · obtain ⟨hq1, hq2⟩ := LBlk.at_ (k := q) (show LBlk wr w2.heap.size lv from (HB.out.block _ (blk_lt HL.out)).trans HL.out) (by omega)
                    have hle := cntM_le lv t q
                    have HC1 := Aside0.mk (show cntM lv t (q + 1) = cntM lv t q + (if lv.getD q 0 = (t : Int) then 1 else 0) from rfl)
                    obtain ⟨a, ha⟩ : ∃ a, a = lv.getD q 0 := ⟨_, rfl⟩
                    rw [← ha] at hq1 HC1
                    clear ha
                    by_cases hat : a = (t : Int)
                    · have e1 : (a == (t : Int)) = true := beq_iff_eq.2 hat
                      rw [if_pos hat] at HC1
                      clear hat
                      go_wp2
                      go_roundw
                      case rel => first
                        | exact ⟨q + 1, by omega, by rw [HC1.out]; go_num, by go_num, HB⟩
                        | (trace_state; fail)
                      case measure => simp [intOf]; omega
                    · have e1 : (a == (t : Int)) = false := beq_eq_false_iff_ne.mpr hat
                      rw [if_neg hat] at HC1
                      go_wp2
                      go_roundw
                      case rel => first
                        | exact ⟨q + 1, by omega, by rw [HC1.out]; rfl, by go_num, HB⟩
                        | (trace_state; fail)
                      case measure => simp [intOf]; omega
                  · obtain rfl : q = j := by omega
                    go_wp2_with (
                      go_at_call 24
                      refine (Level.calls w (fun k => k ≠ g) g ⟨F, (q : Int) + 1, 0, 0⟩ (t : Int) _ (HI.out.step HB.out) HZ.out).mono ?_
                      rintro e w5 ⟨vf, ys, rfl, hR5, hb5, hL5⟩
                      obtain ⟨A5, c5, e5, _, hC5⟩ := Kd.R_reads hR5
                      subst e5
                      have HC5 := Aside0.mk hC5
                      have hyl : ys.length = cntM lv t q := lev_len HF.out hL5
                      have HLO := Aside0.mk (fun (i : Nat) (hi : i + 1 < ys.length) => lev_ord hN HF.out hL5 hi)
                      have HB5 := Aside0.mk (below_step HB.out hb5)
                      have hle := cntM_le lv t q
                      clear hR5 hC5 hb5 hL5)
                    go_loopw [18] (fun i wr => ∃ m : Nat, (m ≤ ys.length ∨ m = 0) ∧ i = .int .i64 ((m : Int) + 1) ∧ Aside0 (Below w5.heap.size w5 wr)) (fun i _ => ys.length - (intOf i).toNat)
                    case atStart => exact ⟨0, .inr rfl, rfl, ⟨Below.refl _ _⟩⟩
                    case round =>
                      obtain ⟨m, hm, rfl, HB⟩ := hrel
                      by_cases hmy : m + 1 < ys.length
                      · obtain ⟨ad3, ea3, x0, x1, x2, x3, x4⟩ := at_T41 (Kd.C_below HC5.out HB.out) ((m + 1 : Nat) : Int) (by omega) (by omega)
                        obtain ⟨ad4, ea4, v0, v1, v2, v3, v4⟩ := at_T41 (Kd.C_below HC5.out HB.out) (m : Int) (by omega) (by omega)
                        have ex : rd_T41 ys ((m + 1 : Nat) : Int) = ys[m + 1] := by unfold rd_T41; rw [Int.toNat_natCast, List.getD_eq_getElem?_getD, List.getElem?_eq_getElem hmy, Option.getD_some]
                        have ev : rd_T41 ys (m : Int) = ys[m]'(by omega) := by unfold rd_T41; rw [Int.toNat_natCast, List.getD_eq_getElem?_getD, List.getElem?_eq_getElem (by omega), Option.getD_some]
                        rw [ex, Int.toNat_natCast] at x0 x1 x2 x3 x4
                        rw [ev, Int.toNat_natCast] at v0 v1 v2 v3 v4
                        obtain ⟨o1, o2⟩ := HLO.out m hmy
                        obtain ⟨X, hX⟩ : ∃ X, ys[m + 1] = X := ⟨_, rfl⟩
                        obtain ⟨Y, hY⟩ : ∃ Y, ys[m]'(by omega) = Y := ⟨_, rfl⟩
                        rw [hX] at x0 x1 x2 x3 x4
                        rw [hY] at v0 v1 v2 v3 v4
                        rw [hX, hY] at o1 o2
                        subst ea3
                        have e34 : ad4 = ad3 := (Option.some.inj ea4).symm
                        subst e34
                        clear ex ev hX hY ea4 x1 x2 x4 v1 v2 v4
                        have hwm : IntKind.i64.wrap ((m : Int) + 1 - 1) = (m : Int) := by rw [show (m : Int) + 1 - 1 = (m : Int) by omega]; exact IntWalk.i64_in _ (by omega)
                        have htm : ((m : Int) + 1).toNat = m + 1 := by omega
                        have hmi : (m : Int) + 1 < (ys.length : Int) := by omega
                        have hmi2 : (m : Int) < (ys.length : Int) := by omega
                        have hmi3 : (m : Int) + 1 < (cntM lv (t : Int) q : Int) := by rw [← hyl]; exact hmi
                        have hmi4 : (m : Int) < (cntM lv (t : Int) q : Int) := by rw [← hyl]; exact hmi2
                        have hm0 : (0 : Int) ≤ (m : Int) + 1 := by omega
                        have hwm2 : IntKind.i64.wrap (m : Int) = (m : Int) := IntWalk.i64_in _ (by omega)
                        have hwm3 : wrap64 (m : Int) = (m : Int) := IntWalk.wrap64_in _ (by omega)
                        have hwm4 : wrap64 ((m : Int) + 1 - 1) = (m : Int) := by rw [show (m : Int) + 1 - 1 = (m : Int) by omega]; exact hwm3
                        by_cases ht0 : t = 0
                        · have e1 : ((t : Int) == 0) = true := beq_iff_eq.2 (by omega)
                          have e4 : (0 < t) = False := eq_false (by omega)
                          have e2 : decide ((t : Int) > 0) = false := decide_eq_false (by omega)
                          have e3 : decide (X.f0 ≥ Y.f0) = false := decide_eq_false (by have := o1 (by omega); omega)
                          clear o1 o2 ht0
                          go_wp2
                          refine wp_region_quiet_lit (by kernel_rfl) (by kernel_rfl) ?_
                          generalize haa : Act.mk _ _ = aa
                          repeat (
                            refine wpQuiet_step (fun K hK => ?_)
                            have HK9 := Aside0.mk hK
                            clear hK
                            subst haa
                            go_simp
                            generalize haa : Act.mk _ _ = aa
                            refine HK9.out _ ?_
                            clear HK9 K)
                          refine wpQuiet_nil ?_
                          intro _ hw'
                          obtain ⟨nq, hw2⟩ := hw'
                          subst hw2
                          clear x0 x3 v0 v3 hwm hwm2 hwm3 hwm4 htm hmi hmi2 hmi3 hmi4 hm0 e1 e2 e3 e4
                          have hwn : IntKind.i64.wrap ((m : Int) + 1 + 1) = (m : Int) + 1 + 1 := IntWalk.i64_in _ (by omega)
                          subst haa
                          go_wp2
                          go_roundw
                          case rel => first
                            | exact ⟨m + 1, .inl (by omega), by simp, ⟨pw_below_drewN HB.out _⟩⟩
                            | (trace_state; fail)
                          case measure => simp [intOf]; omega
                        · have e1 : ((t : Int) == 0) = false := beq_eq_false_iff_ne.mpr (by omega)
                          have e4 : 0 < t := by omega
                          have e2 : decide ((t : Int) > 0) = true := decide_eq_true (by omega)
                          have e3 := o2 (by omega)
                          unfold leS at e3
                          clear o1 o2 ht0
                          go_wp2
                          refine wp_region_quiet_lit (by kernel_rfl) (by kernel_rfl) ?_
                          generalize haa : Act.mk _ _ = aa
                          repeat (
                            refine wpQuiet_step (fun K hK => ?_)
                            have HK9 := Aside0.mk hK
                            clear hK
                            subst haa
                            go_simp
                            generalize haa : Act.mk _ _ = aa
                            refine HK9.out _ ?_
                            clear HK9 K)
                          refine wpQuiet_nil ?_
                          intro _ hw'
                          obtain ⟨nq, hw2⟩ := hw'
                          subst hw2
                          clear x0 x3 v0 v3 hwm hwm2 hwm3 hwm4 htm hmi hmi2 hmi3 hmi4 hm0 e1 e2 e3 e4
                          have hwn : IntKind.i64.wrap ((m : Int) + 1 + 1) = (m : Int) + 1 + 1 := IntWalk.i64_in _ (by omega)
                          subst haa
                          go_wp2
                          go_roundw
                          case rel => first
                            | exact ⟨m + 1, .inl (by omega), by simp, ⟨pw_below_drewN HB.out _⟩⟩
                            | (trace_state; fail)
                          case measure => simp [intOf]; omega
                      · have hmi : ¬ (m : Int) + 1 < (ys.length : Int) := by omega
                        go_wp2
                        go_roundw
                        case rel => first
                          | exact ⟨t + 1, by omega, by go_num, ⟨below_step HB5.out HB.out⟩⟩
                          | (trace_state; fail)
                        case measure => simp [intOf]; omega
              · obtain rfl : t = 5 := by omega
                go_wp2_with (
                  go_at_call 25
                  refine (All.calls w (fun k => k ≠ g) g ⟨F, (j : Int) + 1, 0, 0⟩ _ (HI.out.step HB.out) HZ.out (Nat.lt_of_lt_of_le HI.out.lt HB.out.size)).mono ?_
                  rintro e w5 ⟨vf, zs, rfl, hR5, hb5, hA5⟩
                  obtain ⟨A5, c5, e5⟩ := Kd.R_slice hR5
                  rw [all_len HF.out HLB.out hA5] at e5
                  subst e5
                  have HB5 := Aside0.mk (below_step HB.out hb5)
                  clear hR5 hb5 hA5)
                go_ret
                exact ⟨rfl, below_then HI.out.below HI.out.below.size HB5.out⟩
  · by_cases c0 : n < 1
    · have e0 : decide (n < 1) = true := decide_eq_true c0
      go_enter Try.func6, Try.ntmps6
      go_wp2_with (
        go_at_call 20
        refine (Begun20.holds _).mono ?_
        rintro e w1 ⟨rfl, hb⟩
        have HB1 := Aside0.mk hb
        clear hb)
      go_ret
      exact ⟨rfl, HB1.out⟩
    · have e0 : decide (n < 1) = false := decide_eq_false c0
      have e1 : decide (n > 20) = true := decide_eq_true (by omega)
      go_enter Try.func6, Try.ntmps6
      go_wp2_with (
        go_at_call 20
        refine (Begun20.holds _).mono ?_
        rintro e w1 ⟨rfl, hb⟩
        have HB1 := Aside0.mk hb
        clear hb)
      go_ret
      exact ⟨rfl, HB1.out⟩
end Go.Proofs.Ytjhijcehcklipaa.MVe
