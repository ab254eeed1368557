/-
  VersionSpan, walked.
-/
import Derived.Test.YtjhijcehcklipaaZVeW16
import Derived.Test.YtjhijcehcklipaaZVeW9
import Derived.Test.YtjhijcehcklipaaZBegun20
namespace Go.Proofs.Ytjhijcehcklipaa.MVe
open Go.RowKit Go.Proofs.YtjhijcehcklipaaW.PrintWords Go.Proofs.YtjhijcehcklipaaW.PrintLast Go.Proofs.YtjhijcehcklipaaW.PrintMore
attribute [local go_sem] max2_int min2_int max_two min_two max_three min_three max_four min_four
set_option linter.unusedVariables false
set_option linter.unusedSimpArgs false

/-- The law's table. -/
def tabS (i : Nat) : S41 := ⟨(i : Int) + 1, 2, 0, s1 (97 + 2 * i), s1 (97 + 2 * i + 1)⟩
def tabsS (n : Nat) : List S41 := (List.range n).map tabS
theorem tabsS_succ (n : Nat) : tabsS (n + 1) = tabsS n ++ [tabS n] := by unfold tabsS; rw [List.range_succ, List.map_append]; rfl
theorem tabsS_len (n : Nat) : (tabsS n).length = n := by unfold tabsS; rw [List.length_map, List.length_range]
theorem tabsS_mem {n : Nat} {x : S41} (h : x ∈ tabsS n) : ∃ i, i < n ∧ x = tabS i := by
  obtain ⟨i, hi, rfl⟩ := List.mem_map.1 h
  exact ⟨i, List.mem_range.1 hi, rfl⟩
theorem tabsS_pair {n : Nat} {R : S41 → S41 → Prop} (h : ∀ i j, i < j → j < n → R (tabS i) (tabS j)) : (tabsS n).Pairwise R := by
  rw [List.pairwise_iff_getElem]
  intro i j hi hj hij
  have hj' : j < n := by rw [tabsS_len] at hj; exact hj
  have e : ∀ k (hk : k < (tabsS n).length), (tabsS n)[k] = tabS k := fun k hk => by simp [tabsS]
  rw [e i hi, e j hj]
  exact h i j hij hj'
theorem spans_ap {n : Nat} (hn : n ≤ 12) : apV ⟨[], 1, 0, 0⟩ 50 0 0 (tabsS n) [] = some ⟨tabsS n, 50, 0, 0⟩ := by
  refine apV_adds (by omega) (tabsS_pair fun i j hij hj => by show (i : Int) + 1 ≠ (j : Int) + 1; omega) (fun x hx => ?_) (tabsS_pair fun i j hij hj => ?_) (by rw [tabsS_len]; omega)
  · obtain ⟨i, hi, rfl⟩ := tabsS_mem hx
    refine ⟨?_, by show (i : Int) + 1 < 50; omega⟩
    unfold fileOk tabS inB
    have h1 := leS_s1 (x := 97 + 2 * (i : Int)) (y := 97 + 2 * i + 1) (by omega) (by omega)
    unfold leS at h1
    simp only [h1, s1_size]
    simp
    omega
  · unfold hit
    rw [meet_s1 (x := 97 + 2 * (j : Int)) (y := 97 + 2 * j + 1) (z := 97 + 2 * (i : Int)) (u := 97 + 2 * i + 1) (by omega) (by omega) (by omega) (by omega) rfl rfl rfl rfl]
    rw [decide_eq_false (show ¬ (max (97 + 2 * (j : Int)) (97 + 2 * i) ≤ min (97 + 2 * (j : Int) + 1) (97 + 2 * i + 1)) by omega), Bool.and_false]
/-- How many there are. -/
def wantS (a b : Int) : Nat → Nat
  | 0 => 0
  | i + 1 => wantS a b i + (if a ≤ b ∧ 2 * (i : Int) ≤ b ∧ 2 * (i : Int) + 1 ≥ a then 1 else 0)
theorem wantS_le (a b : Int) : ∀ n, wantS a b n ≤ n
  | 0 => Nat.le_refl _
  | n + 1 => by have := wantS_le a b n; unfold wantS; split <;> omega
theorem spans_over {n : Nat} {a b : Int} (hn : n ≤ 12) (ha : 0 ≤ a ∧ a ≤ 25) (hb : 0 ≤ b ∧ b ≤ 25) {zs : List S41} (h : OverOf 2 (s1 (97 + a)) (s1 (97 + b)) (tabsS n) zs) : zs.length = wantS a b n := by
  unfold OverOf at h
  rw [leS_s1 (by omega) (by omega)] at h
  by_cases hab : a ≤ b
  · rw [if_pos (decide_eq_true (by omega))] at h
    obtain ⟨ys, ⟨hp, _⟩, rfl⟩ := h
    have e1 : (tabsS n).filter (fun x => x.f1 == 2) = tabsS n := List.filter_eq_self.2 fun x hx => by obtain ⟨i, _, rfl⟩ := tabsS_mem hx; rfl
    rw [e1] at hp
    rw [(hp.filter _).length_eq]
    clear hp e1
    revert hn
    induction n with
    | zero => intro _; rfl
    | succ n ih =>
      intro hn
      rw [tabsS_succ, List.filter_append, List.length_append, ih (by omega), wantS]
      congr 1
      rw [List.filter_cons, List.filter_nil, meet_s1 (x := 97 + 2 * (n : Int)) (y := 97 + 2 * n + 1) (z := 97 + a) (u := 97 + b) (by omega) (by omega) (by omega) (by omega) rfl rfl rfl rfl]
      by_cases hc : a ≤ b ∧ 2 * (n : Int) ≤ b ∧ 2 * (n : Int) + 1 ≥ a
      · rw [if_pos hc, if_pos (decide_eq_true (by omega))]; rfl
      · rw [if_neg hc, if_neg (by rw [decide_eq_true_eq]; omega)]; rfl
  · rw [if_neg (by rw [decide_eq_true_eq]; omega)] at h
    subst h
    have : ∀ n, wantS a b n = 0 := by
      intro n
      induction n with
      | zero => rfl
      | succ n ih => rw [wantS, ih, if_neg (by omega)]
    rw [this]; rfl
theorem conv1 (W : World) (c : Int) : (convert 28 9 (.slice (some ⟨W.heap.size, 0, none⟩) 1 1)).run Try.prog (W.alloc (.cells #[.int .u8 c] 5)) = .ok (.string (s1 c)) (W.alloc (.cells #[.int .u8 c] 5)) :=
  run_convert_bytes_arg (W.alloc (.cells #[.int .u8 c] 5)) 28 5 Try.underlying28 Try.underlying5 W.heap.size 0 1 1 [c] rfl (fun i hi => by
    have h0 : i = 0 := by simpa using hi
    subst h0
    exact (blk_cell (blk_new W (.cells #[.int .u8 c] 5)) 0).trans rfl) 9 Try.underlying9
theorem conv2 (W : World) (o : Obj) (c : Int) : (convert 28 9 (.slice (some ⟨W.heap.size + 1, 0, none⟩) 1 1)).run Try.prog ((W.alloc o).alloc (.cells #[.int .u8 c] 5)) = .ok (.string (s1 c)) ((W.alloc o).alloc (.cells #[.int .u8 c] 5)) := by
  have h := conv1 (W.alloc o) c
  have e : (W.alloc o).heap.size = W.heap.size + 1 := by simp
  rw [e] at h
  exact h
theorem u8_in (x : Int) (h : 0 ≤ x ∧ x ≤ 255) : IntKind.u8.wrap x = x := by simp [IntKind.wrap, IntKind.bits, IntKind.signed]; omega
theorem VInv.grown {w0 w w1 : World} {g : Nat} {v : Ver} {row : Option Nat} (h : VInv w0 (fun _ => False) g v w) (hg : w.grownBy w1 row) (hr : ∀ k, row = some k → w0.heap.size ≤ k ∧ k ≠ g) : VInv w0 (fun _ => False) g v w1 := by
  obtain ⟨h1, h2, vf, h3, h4⟩ := h
  exact ⟨Below.grown h1 hg h1.size (fun k hk => (hr k hk).1), h2, vf, blk_grown h3 hg (fun e => (hr g e.symm).2 rfl), Kd.R_grown h4 hg (fun k hk => hk.elim)⟩
theorem VInv.wide {w0 w : World} {P Q : Nat → Prop} {g : Nat} {v : Ver} (h : VInv w0 P g v w) (hp : ∀ k, P k → Q k) : VInv w0 Q g v w := by
  obtain ⟨h1, h2, vf, h3, h4⟩ := h
  exact ⟨h1, h2, vf, h3, Kd.R_mono h4 hp⟩

set_option maxHeartbeats 4000000 in
set_option maxRecDepth 100000 in
theorem VersionSpan.calls (n a b : Int) (w : World) : Calls Try.prog 5 #[.int .i64 n, .int .i64 a, .int .i64 b] w fun e w' => e = .returned (.bool true) ∧ Below w.heap.size w w' := by
  have hu41 := Try.underlying41
  have hu45 := Try.underlying45
  by_cases hr : 0 ≤ n ∧ n ≤ 12 ∧ 0 ≤ a ∧ a ≤ 25 ∧ 0 ≤ b ∧ b ≤ 25
  · obtain ⟨h1, h2, h3, h4, h5, h6⟩ := hr
    obtain ⟨N, rfl⟩ : ∃ N : Nat, n = (N : Int) := ⟨n.toNat, by omega⟩
    have hN : N ≤ 12 := by omega
    have d1 : decide ((N : Int) < 0) = false := decide_eq_false (by omega)
    have d2 : decide ((N : Int) > 12) = false := decide_eq_false (by omega)
    have d3 : decide (a < 0) = false := decide_eq_false (by omega)
    have d4 : decide (a > 25) = false := decide_eq_false (by omega)
    have d5 : decide (b < 0) = false := decide_eq_false (by omega)
    have d6 : decide (b > 25) = false := decide_eq_false (by omega)
    go_enter Try.func5, Try.ntmps5
    go_wp2_with (first
      | (go_at_call 20
         refine (Begun20.holds _).mono ?_
         rintro e w1 ⟨rfl, hb⟩
         have HB1 := Aside0.mk hb
         clear hb)
      | (go_at_call 21
         refine (vNew.calls w w1 HB1.out).mono ?_
         rintro e w2 ⟨g, rfl, hg, hI, hb⟩
         have HI2 := Aside0.mk (hI (fun _ => False))
         clear hg hI hb))
    go_loopw [9, 10] (fun s i wr => ∃ j : Nat, j ≤ N ∧ i = .int .i64 j ∧ Aside0 (Kd.R k41 41 wr w.heap.size (fun k => k ≠ g) s (tabsS j)) ∧ Aside0 (VInv w (fun _ => False) g ⟨[], 1, 0, 0⟩ wr)) (fun _ i _ => N - (intOf i).toNat)
    case atStart => exact ⟨0, Nat.zero_le _, rfl, ⟨Kd.R_nil _ _ _ _ _⟩, HI2⟩
    case round =>
      clear HI2
      obtain ⟨j, hj, rfl, HR, HI⟩ := hrel
      by_cases hlt : j < N
      · have hw1 : IntKind.i64.wrap (2 * (j : Int)) = 2 * (j : Int) := IntWalk.i64_in _ (by omega)
        have hw2 : IntKind.i64.wrap (97 + 2 * (j : Int)) = 97 + 2 * (j : Int) := IntWalk.i64_in _ (by omega)
        have hw3 : IntKind.u8.wrap (97 + 2 * (j : Int)) = 97 + 2 * (j : Int) := u8_in _ (by omega)
        have hw4 : IntKind.i64.wrap (97 + 2 * (j : Int) + 1) = 97 + 2 * (j : Int) + 1 := IntWalk.i64_in _ (by omega)
        have hw5 : IntKind.u8.wrap (97 + 2 * (j : Int) + 1) = 97 + 2 * (j : Int) + 1 := u8_in _ (by omega)
        have hw6 : IntKind.i64.wrap ((j : Int) + 1) = (j : Int) + 1 := IntWalk.i64_in _ (by omega)
        have hcv1 := conv1 wr (97 + 2 * (j : Int))
        have hcv2 := conv2 wr (.cells #[.int .u8 (97 + 2 * (j : Int))] 5) (97 + 2 * (j : Int) + 1)
        have HB2 := Aside0.mk (below_alloc (below_alloc (Below.refl wr.heap.size wr) (.cells #[.int .u8 (97 + 2 * (j : Int))] 5)) (.cells #[.int .u8 (97 + 2 * (j : Int) + 1)] 5))
        have hgl : g < wr.heap.size := HI.out.lt
        go_wp2_with (
          at_builtin
          refine Kd.R_append k41 (w0 := w) w.heap.size rfl (.tmp 45) (.tmp 62) 39 41 (.agg #[.int .i64 0, .int .i64 0, .int .i64 0, .string ⟨#[]⟩, .string ⟨#[]⟩]) 56 rfl Try.underlying39 info41 rfl (by decide) (by omega) u9 (tabsS j) (tabS j) [.int .i64 ((j : Int) + 1), .int .i64 2, .int .i64 0, .string (s1 (97 + 2 * (j : Int))), .string (s1 (97 + 2 * (j : Int) + 1))] (fun k => k ≠ g) (fun _ => False) rfl (by first | (go_simp; done) | (go_simp; rfl)) ?aP (fun _ hk => hk.elim) ?aF ?aO ?aB ?aS ?aL ?_
          (case aP => exact k41_mkM _ _ _ (tabS j))
          (case aF => exact fun k hk => by have h1 : wr.heap.size ≤ k := Nat.le_trans HB2.out.size hk; omega)
          (case aO => exact Kd.R_below HR.out HB2.out)
          (case aB => exact below_then HI.out.below HI.out.below.size HB2.out)
          (case aS => exact Nat.le_trans HI.out.below.size HB2.out.size)
          (case aL => rw [tabsS_len]; omega)
          intro v3 w3 ho hb hg hat
          have HR3 := Aside0.mk ho
          have HI3 := Aside0.mk ((HI.out.step HB2.out).grown hg (fun k hk => ⟨own_base (Kd.R_own (Kd.R_below HR.out HB2.out)).choose_spec k hk, HR.out.1 k hk⟩))
          clear ho hb hg hat)
        go_roundw
        case rel => first
          | exact ⟨j + 1, by omega, by go_num, ⟨by rw [tabsS_succ]; exact HR3.out⟩, HI3⟩
          | exact ⟨_, _, _, _, _, _, _, _, _, _, _, _, _, _, _, _, _, _, _, _, _, _, _, _, _, _, _, _, _, ⟨j + 1, by omega, by go_num, ⟨by rw [tabsS_succ]; exact HR3.out⟩, HI3⟩, rfl⟩
        case measure => simp [intOf]; omega
      · obtain rfl : j = N := by omega
        obtain ⟨A, c, e, hcap, hC⟩ := Kd.R_reads HR.out
        have hw2 : IntKind.i64.wrap (97 + a) = 97 + a := IntWalk.i64_in _ (by omega)
        have hw3 : IntKind.u8.wrap (97 + a) = 97 + a := u8_in _ (by omega)
        have hw4 : IntKind.i64.wrap (97 + b) = 97 + b := IntWalk.i64_in _ (by omega)
        have hw5 : IntKind.u8.wrap (97 + b) = 97 + b := u8_in _ (by omega)
        subst e
        have HC := Aside0.mk hC
        clear hC
        go_wp2_with (first
          | (go_at_call 22
             refine (Apply.calls w g ⟨[], 1, 0, 0⟩ 50 0 0 A none c 0 (tabsS j) [] _ (HI.out.wide (fun _ hk => hk.elim)) (by simp) HC.out hcap (Kd.C_nil _ _) (Nat.le_refl _) (by simp)).mono ?_
             rintro e w4 h
             rw [spans_ap hN] at h
             rcases h with ⟨h, _⟩ | ⟨v', h, rfl, hI4, hk4⟩
             · cases h
             cases h
             have HI4 := Aside0.mk hI4
             have hcv1 := conv1 w4 (97 + a)
             have hcv2 := conv2 w4 (.cells #[.int .u8 (97 + a)] 5) (97 + b)
             have HB2 := Aside0.mk (below_alloc (below_alloc (Below.refl w4.heap.size w4) (.cells #[.int .u8 (97 + a)] 5)) (.cells #[.int .u8 (97 + b)] 5))
             clear hI4 hk4)
          | (go_at_call 23
             refine (Over.calls w (fun k => k ≠ g) g ⟨tabsS j, 50, 0, 0⟩ 2 (s1 (97 + a)) (s1 (97 + b)) _ (HI4.out.step HB2.out) (by show (tabsS j).length ≤ _; rw [tabsS_len]; omega)).mono ?_
             rintro e w5 ⟨vf, zs, rfl, hR5, hb5, hO⟩
             obtain ⟨A5, c5, e5⟩ := Kd.R_slice hR5
             rw [spans_over hN ⟨h3, h4⟩ ⟨h5, h6⟩ hO] at e5
             subst e5
             have HB5 := Aside0.mk (below_then HI4.out.below HI4.out.below.size (below_step HB2.out hb5))
             clear hR5 hb5 hO))
        go_loopw [12, 13] (fun s i wr => ∃ k : Nat, k ≤ j ∧ s = .int .i64 (wantS a b k) ∧ i = .int .i64 k ∧ Aside0 (Below w.heap.size w wr)) (fun _ i _ => j - (intOf i).toNat)
        case atStart => exact ⟨0, Nat.zero_le _, rfl, rfl, HB5⟩
        case round =>
          clear HB5
          obtain ⟨k, hk, rfl, rfl, HB⟩ := hrel
          by_cases hlt2 : k < j
          · have hv1 : IntKind.i64.wrap (2 * (k : Int)) = 2 * (k : Int) := IntWalk.i64_in _ (by omega)
            have hv2 : IntKind.i64.wrap (2 * (k : Int) + 1) = 2 * (k : Int) + 1 := IntWalk.i64_in _ (by omega)
            have hle := wantS_le a b k
            have HW := Aside0.mk (show wantS a b (k + 1) = wantS a b k + (if a ≤ b ∧ 2 * (k : Int) ≤ b ∧ 2 * (k : Int) + 1 ≥ a then 1 else 0) from rfl)
            by_cases c1 : a ≤ b
            · by_cases c2 : 2 * (k : Int) ≤ b
              · by_cases c3 : 2 * (k : Int) + 1 ≥ a
                · rw [if_pos ⟨c1, c2, c3⟩] at HW
                  have e1 : decide (a ≤ b) = true := decide_eq_true c1
                  have e2 : decide (2 * (k : Int) ≤ b) = true := decide_eq_true c2
                  have e3 : decide (2 * (k : Int) + 1 ≥ a) = true := decide_eq_true c3
                  go_wp2
                  go_roundw
                  case rel => exact ⟨k + 1, by omega, by rw [HW.out]; go_num, by go_num, HB⟩
                  case measure => simp [intOf]; omega
                · rw [if_neg (by omega)] at HW
                  have e1 : decide (a ≤ b) = true := decide_eq_true c1
                  have e2 : decide (2 * (k : Int) ≤ b) = true := decide_eq_true c2
                  have e3 : decide (2 * (k : Int) + 1 ≥ a) = false := decide_eq_false c3
                  go_wp2
                  go_roundw
                  case rel => exact ⟨k + 1, by omega, by rw [HW.out]; rfl, by go_num, HB⟩
                  case measure => simp [intOf]; omega
              · rw [if_neg (by omega)] at HW
                have e1 : decide (a ≤ b) = true := decide_eq_true c1
                have e2 : decide (2 * (k : Int) ≤ b) = false := decide_eq_false c2
                go_wp2
                go_roundw
                case rel => exact ⟨k + 1, by omega, by rw [HW.out]; rfl, by go_num, HB⟩
                case measure => simp [intOf]; omega
            · rw [if_neg (by omega)] at HW
              have e1 : decide (a ≤ b) = false := decide_eq_false c1
              go_wp2
              go_roundw
              case rel => exact ⟨k + 1, by omega, by rw [HW.out]; rfl, by go_num, HB⟩
              case measure => simp [intOf]; omega
          · obtain rfl : k = j := by omega
            go_wp2
            go_ret
            exact ⟨rfl, HB.out⟩
  · by_cases c0 : n < 0
    · have e0 : decide (n < 0) = true := decide_eq_true c0
      go_enter Try.func5, Try.ntmps5
      go_wp2_with (
        go_at_call 20
        refine (Begun20.holds _).mono ?_
        rintro e w1 ⟨rfl, hb⟩
        have HB1 := Aside0.mk hb
        clear hb)
      go_ret
      exact ⟨rfl, HB1.out⟩
    · have e0 : decide (n < 0) = false := decide_eq_false c0
      by_cases c1 : n > 12
      · have e1 : decide (n > 12) = true := decide_eq_true c1
        go_enter Try.func5, Try.ntmps5
        go_wp2_with (
          go_at_call 20
          refine (Begun20.holds _).mono ?_
          rintro e w1 ⟨rfl, hb⟩
          have HB1 := Aside0.mk hb
          clear hb)
        go_ret
        exact ⟨rfl, HB1.out⟩
      · have e1 : decide (n > 12) = false := decide_eq_false c1
        by_cases c2 : a < 0
        · have e2 : decide (a < 0) = true := decide_eq_true c2
          go_enter Try.func5, Try.ntmps5
          go_wp2_with (
            go_at_call 20
            refine (Begun20.holds _).mono ?_
            rintro e w1 ⟨rfl, hb⟩
            have HB1 := Aside0.mk hb
            clear hb)
          go_ret
          exact ⟨rfl, HB1.out⟩
        · have e2 : decide (a < 0) = false := decide_eq_false c2
          by_cases c3 : a > 25
          · have e3 : decide (a > 25) = true := decide_eq_true c3
            go_enter Try.func5, Try.ntmps5
            go_wp2_with (
              go_at_call 20
              refine (Begun20.holds _).mono ?_
              rintro e w1 ⟨rfl, hb⟩
              have HB1 := Aside0.mk hb
              clear hb)
            go_ret
            exact ⟨rfl, HB1.out⟩
          · have e3 : decide (a > 25) = false := decide_eq_false c3
            by_cases c4 : b < 0
            · have e4 : decide (b < 0) = true := decide_eq_true c4
              go_enter Try.func5, Try.ntmps5
              go_wp2_with (
                go_at_call 20
                refine (Begun20.holds _).mono ?_
                rintro e w1 ⟨rfl, hb⟩
                have HB1 := Aside0.mk hb
                clear hb)
              go_ret
              exact ⟨rfl, HB1.out⟩
            · have e4 : decide (b < 0) = false := decide_eq_false c4
              by_cases c5 : b > 25
              · have e5 : decide (b > 25) = true := decide_eq_true c5
                go_enter Try.func5, Try.ntmps5
                go_wp2_with (
                  go_at_call 20
                  refine (Begun20.holds _).mono ?_
                  rintro e w1 ⟨rfl, hb⟩
                  have HB1 := Aside0.mk hb
                  clear hb)
                go_ret
                exact ⟨rfl, HB1.out⟩
              · exact absurd ⟨by omega, by omega, by omega, by omega, by omega, by omega⟩ hr
end Go.Proofs.Ytjhijcehcklipaa.MVe
