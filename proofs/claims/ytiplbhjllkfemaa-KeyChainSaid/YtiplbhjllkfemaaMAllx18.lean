-- written by mp.py, a program of this session's over the kit's printer
import Derived.Test.YtiplbhjllkfemaaMAllx0
import Derived.Laws.Cover1
import Derived.Test.YtiplbhjllkfemaaSFull
import Derived.Test.YtiplbhjllkfemaaMAllx1
import Derived.Test.YtiplbhjllkfemaaMAllx16
import Derived.Test.YtiplbhjllkfemaaMAllx17
namespace Go.Proofs.Ytiplbhjllkfemaa.MAll
open Go.RowKit Go.Proofs.YtiplbhjllkfemaaW.PrintWords Go.Proofs.YtiplbhjllkfemaaW.PrintLast Go.Proofs.YtiplbhjllkfemaaW.PrintMore
attribute [local go_sem] max2_int min2_int max_two min_two max_three min_three max_four min_four   -- for this text's walks alone
set_option linter.unusedVariables false
set_option linter.unusedSimpArgs false

/-! ### incipitlaw6_KeyChain: function 3 -/
mutual
def incipitlaw6_KeyChain.l0 : Nat → List ByteArray → List ByteArray → Int → Option (Bool)
 | 0, _, _, _ => none
 | k + 1, x0, x4, x5 => if x5 < (x0.length : Int) then (incipitlaw6_KeyChain.j1 k x0 x4 x5 (decide (x5 < 12))) else (incipitlaw6_KeyChain.j1 k x0 x4 x5 false)
def incipitlaw6_KeyChain.j1 : Nat → List ByteArray → List ByteArray → Int → Bool → Option (Bool)
 | 0, _, _, _, _ => none
 | k + 1, x0, x4, x5, x20 => if x20 = true then (if 0 ≤ x5 then (if x5 < (x0.length : Int) then ((incipitlaw1_Cut.f (rdOf ByteArray.empty x0 x5) 30).bind fun t440 => (incipitlaw6_KeyChain.l1 k x0 x4 x5 t440 0)) else (none)) else (none)) else (incipitlaw6_KeyChain.l2 k x4 1)
def incipitlaw6_KeyChain.l1 : Nat → List ByteArray → List ByteArray → Int → ByteArray → Int → Option (Bool)
 | 0, _, _, _, _, _ => none
 | k + 1, x0, x4, x5, x6, x7 => if x7 < (x4.length : Int) then (if 0 ≤ x7 then (if (Op.bytesLess ((rdOf ByteArray.empty x4 x7).toList) x6.toList) = true then (incipitlaw6_KeyChain.l1 k x0 x4 x5 x6 (wrap64 (x7 + 1))) else (if x7 = (x4.length : Int) then (if x7 ≤ (x4.length : Int) then ((some (x4.take (x7 : Int).toNat : List ByteArray)).bind fun y442 => ((some (([x6] : List ByteArray) : List ByteArray)).bind fun y446 => ((some (x4.drop (x7 : Int).toNat : List ByteArray)).bind fun y449 => (if y446.length + y449.length < 8796093022208 then ((some (y446 ++ y449 : List ByteArray)).bind fun y453 => (if y442.length + y453.length < 8796093022208 then (incipitlaw6_KeyChain.l0 k x0 (y442 ++ y453) (wrap64 (x5 + 1))) else (none))) else (none))))) else (none)) else (if (rdOf ByteArray.empty x4 x7).toList = x6.toList then (incipitlaw6_KeyChain.l0 k x0 x4 (wrap64 (x5 + 1))) else (if x7 ≤ (x4.length : Int) then ((some (x4.take (x7 : Int).toNat : List ByteArray)).bind fun y460 => ((some (([x6] : List ByteArray) : List ByteArray)).bind fun y464 => ((some (x4.drop (x7 : Int).toNat : List ByteArray)).bind fun y467 => (if y464.length + y467.length < 8796093022208 then ((some (y464 ++ y467 : List ByteArray)).bind fun y471 => (if y460.length + y471.length < 8796093022208 then (incipitlaw6_KeyChain.l0 k x0 (y460 ++ y471) (wrap64 (x5 + 1))) else (none))) else (none))))) else (none))))) else (none)) else (if x7 = (x4.length : Int) then (if 0 ≤ x7 then (if x7 ≤ (x4.length : Int) then ((some (x4.take (x7 : Int).toNat : List ByteArray)).bind fun y477 => ((some (([x6] : List ByteArray) : List ByteArray)).bind fun y481 => ((some (x4.drop (x7 : Int).toNat : List ByteArray)).bind fun y484 => (if y481.length + y484.length < 8796093022208 then ((some (y481 ++ y484 : List ByteArray)).bind fun y488 => (if y477.length + y488.length < 8796093022208 then (incipitlaw6_KeyChain.l0 k x0 (y477 ++ y488) (wrap64 (x5 + 1))) else (none))) else (none))))) else (none)) else (none)) else (none))
def incipitlaw6_KeyChain.l2 : Nat → List ByteArray → Int → Option (Bool)
 | 0, _, _ => none
 | k + 1, x4, x8 => if x8 < (x4.length : Int) then (if 0 ≤ (wrap64 (x8 - 1)) then (if (wrap64 (x8 - 1)) < (x4.length : Int) then (if 0 ≤ x8 then ((ckey_Between.f k (rdOf ByteArray.empty x4 (wrap64 (x8 - 1))) (rdOf ByteArray.empty x4 x8)).bind fun t496 => (if (Op.bytesLess t496.toList ((rdOf ByteArray.empty x4 (wrap64 (x8 - 1))).toList)) = true then (none) else (if ((Op.bytesLess t496.toList ((rdOf ByteArray.empty x4 x8).toList)) = true) then ((incipitref1_Between.f k (rdOf ByteArray.empty x4 (wrap64 (x8 - 1))) (rdOf ByteArray.empty x4 x8)).bind fun t501 => (if t496.toList = t501.toList then (incipitlaw6_KeyChain.l2 k x4 (wrap64 (x8 + 1))) else (none))) else (none)))) else (none)) else (none)) else (none)) else (some true)
end
def incipitlaw6_KeyChain.f (k : Nat) (l0 : List ByteArray) : Option (Bool) := (incipitlaw6_begun.f).bind fun t438 => (if t438 = true then (incipitlaw6_KeyChain.l0 k l0 ([] : List ByteArray) 0) else (none))
theorem incipitlaw6_KeyChain.mono_l : ∀ k, (∀ y0 y1 y2, LeO (incipitlaw6_KeyChain.l0 k y0 y1 y2) (incipitlaw6_KeyChain.l0 (k + 1) y0 y1 y2)) ∧ (∀ y0 y1 y2 y3, LeO (incipitlaw6_KeyChain.j1 k y0 y1 y2 y3) (incipitlaw6_KeyChain.j1 (k + 1) y0 y1 y2 y3)) ∧ (∀ y0 y1 y2 y3 y4, LeO (incipitlaw6_KeyChain.l1 k y0 y1 y2 y3 y4) (incipitlaw6_KeyChain.l1 (k + 1) y0 y1 y2 y3 y4)) ∧ (∀ y0 y1, LeO (incipitlaw6_KeyChain.l2 k y0 y1) (incipitlaw6_KeyChain.l2 (k + 1) y0 y1))
 | 0 => ⟨fun _ _ _ r h => by simp [incipitlaw6_KeyChain.l0] at h, fun _ _ _ _ r h => by simp [incipitlaw6_KeyChain.j1] at h, fun _ _ _ _ _ r h => by simp [incipitlaw6_KeyChain.l1] at h, fun _ _ r h => by simp [incipitlaw6_KeyChain.l2] at h⟩
 | k + 1 => by
  obtain ⟨ih0, ih1, ih2, ih3⟩ := incipitlaw6_KeyChain.mono_l k
  refine ⟨?_, ?_, ?_, ?_⟩
  · intro y0 y1 y2
    unfold incipitlaw6_KeyChain.l0
    repeat' first
    | (with_reducible exact ih0 _ _ _)
    | (with_reducible exact ih1 _ _ _ _)
    | (with_reducible exact ih2 _ _ _ _ _)
    | (with_reducible exact ih3 _ _)
    | (with_reducible exact ckey_Between.mono _ _ _)
    | (with_reducible exact incipitref1_Between.mono _ _ _)
    | (with_reducible exact LeO.refl _)
    | (with_reducible exact LeO.none _)
    | (with_reducible refine LeO.ite ?_ ?_)
    | (with_reducible refine LeO.bind ?_ (fun _ => ?_))
    | exact ih0 _ _ _
    | exact ih1 _ _ _ _
    | exact ih2 _ _ _ _ _
    | exact ih3 _ _
    | exact ckey_Between.mono _ _ _
    | exact incipitref1_Between.mono _ _ _
    | exact LeO.none _
    | refine LeO.ite ?_ ?_
    | refine LeO.bind ?_ (fun _ => ?_)
  · intro y0 y1 y2 y3
    unfold incipitlaw6_KeyChain.j1
    repeat' first
    | (with_reducible exact ih0 _ _ _)
    | (with_reducible exact ih1 _ _ _ _)
    | (with_reducible exact ih2 _ _ _ _ _)
    | (with_reducible exact ih3 _ _)
    | (with_reducible exact ckey_Between.mono _ _ _)
    | (with_reducible exact incipitref1_Between.mono _ _ _)
    | (with_reducible exact LeO.refl _)
    | (with_reducible exact LeO.none _)
    | (with_reducible refine LeO.ite ?_ ?_)
    | (with_reducible refine LeO.bind ?_ (fun _ => ?_))
    | exact ih0 _ _ _
    | exact ih1 _ _ _ _
    | exact ih2 _ _ _ _ _
    | exact ih3 _ _
    | exact ckey_Between.mono _ _ _
    | exact incipitref1_Between.mono _ _ _
    | exact LeO.none _
    | refine LeO.ite ?_ ?_
    | refine LeO.bind ?_ (fun _ => ?_)
  · intro y0 y1 y2 y3 y4
    unfold incipitlaw6_KeyChain.l1
    repeat' first
    | (with_reducible exact ih0 _ _ _)
    | (with_reducible exact ih1 _ _ _ _)
    | (with_reducible exact ih2 _ _ _ _ _)
    | (with_reducible exact ih3 _ _)
    | (with_reducible exact ckey_Between.mono _ _ _)
    | (with_reducible exact incipitref1_Between.mono _ _ _)
    | (with_reducible exact LeO.refl _)
    | (with_reducible exact LeO.none _)
    | (with_reducible refine LeO.ite ?_ ?_)
    | (with_reducible refine LeO.bind ?_ (fun _ => ?_))
    | exact ih0 _ _ _
    | exact ih1 _ _ _ _
    | exact ih2 _ _ _ _ _
    | exact ih3 _ _
    | exact ckey_Between.mono _ _ _
    | exact incipitref1_Between.mono _ _ _
    | exact LeO.none _
    | refine LeO.ite ?_ ?_
    | refine LeO.bind ?_ (fun _ => ?_)
  · intro y0 y1
    unfold incipitlaw6_KeyChain.l2
    repeat' first
    | (with_reducible exact ih0 _ _ _)
    | (with_reducible exact ih1 _ _ _ _)
    | (with_reducible exact ih2 _ _ _ _ _)
    | (with_reducible exact ih3 _ _)
    | (with_reducible exact ckey_Between.mono _ _ _)
    | (with_reducible exact incipitref1_Between.mono _ _ _)
    | (with_reducible exact LeO.refl _)
    | (with_reducible exact LeO.none _)
    | (with_reducible refine LeO.ite ?_ ?_)
    | (with_reducible refine LeO.bind ?_ (fun _ => ?_))
    | exact ih0 _ _ _
    | exact ih1 _ _ _ _
    | exact ih2 _ _ _ _ _
    | exact ih3 _ _
    | exact ckey_Between.mono _ _ _
    | exact incipitref1_Between.mono _ _ _
    | exact LeO.none _
    | refine LeO.ite ?_ ?_
    | refine LeO.bind ?_ (fun _ => ?_)
theorem incipitlaw6_KeyChain.mono : ∀ a0 k, LeO (incipitlaw6_KeyChain.f k a0) (incipitlaw6_KeyChain.f (k + 1) a0) := by
 intro a0 k
 obtain ⟨ih0, ih1, ih2, ih3⟩ := incipitlaw6_KeyChain.mono_l k
 unfold incipitlaw6_KeyChain.f
 repeat' first
  | (with_reducible exact ih0 _ _ _)
  | (with_reducible exact ih1 _ _ _ _)
  | (with_reducible exact ih2 _ _ _ _ _)
  | (with_reducible exact ih3 _ _)
  | (with_reducible exact ckey_Between.mono _ _ _)
  | (with_reducible exact incipitref1_Between.mono _ _ _)
  | (with_reducible exact LeO.refl _)
  | (with_reducible exact LeO.none _)
  | (with_reducible refine LeO.ite ?_ ?_)
  | (with_reducible refine LeO.bind ?_ (fun _ => ?_))
  | exact ih0 _ _ _
  | exact ih1 _ _ _ _
  | exact ih2 _ _ _ _ _
  | exact ih3 _ _
  | exact ckey_Between.mono _ _ _
  | exact incipitref1_Between.mono _ _ _
  | exact LeO.none _
  | refine LeO.ite ?_ ?_
  | refine LeO.bind ?_ (fun _ => ?_)
def incipitlaw6_KeyChain.T13 : Bool × List (List Nat × List Nat) := (true, [([], []), ([], []), ([], []), ([0, 1, 2], [0, 1, 2]), ([], []), ([4], [4]), ([], []), ([], []), ([6, 7], [6, 7]), ([5, 8], [5, 8]), ([3, 9, 9], [3, 9]), ([10, 10, 0, 1, 2, 3, 4, 5, 6, 7, 8, 9, 10], [0, 6, 10])])
def incipitlaw6_KeyChain.B13 : List Nat := [0, 0, 0, 7, 0, 16, 0, 0, 192, 496, 1023, 2047]
theorem incipitlaw6_KeyChain.tab13 : rtab .any (opsOf Try.f3 13) = incipitlaw6_KeyChain.T13 := by kernel_rfl
theorem incipitlaw6_KeyChain.bits13 : waitsOk incipitlaw6_KeyChain.T13.2 incipitlaw6_KeyChain.B13 = true := by kernel_rfl
def incipitlaw6_KeyChain.T17 : Bool × List (List Nat × List Nat) := (true, [([], []), ([], []), ([1], [1]), ([0, 2], [0, 2]), ([3], [3]), ([], []), ([], []), ([5, 6], [5, 6]), ([7], [7]), ([4, 8], [4, 8]), ([9, 9, 0, 1, 2, 3, 4, 5, 6, 7, 8, 9], [9])])
def incipitlaw6_KeyChain.B17 : List Nat := [0, 0, 2, 7, 15, 0, 0, 96, 224, 511, 1023]
theorem incipitlaw6_KeyChain.tab17 : rtab .any (opsOf Try.f3 17) = incipitlaw6_KeyChain.T17 := by kernel_rfl
theorem incipitlaw6_KeyChain.bits17 : waitsOk incipitlaw6_KeyChain.T17.2 incipitlaw6_KeyChain.B17 = true := by kernel_rfl
def incipitlaw6_KeyChain.T18 : Bool × List (List Nat × List Nat) := (true, [([], []), ([], []), ([], []), ([2], [2]), ([1, 3], [1, 3]), ([4], [4]), ([0, 5], [0, 5]), ([6], [6]), ([7], [7]), ([7], [7]), ([7], [7]), ([9, 10, 7], [7, 9, 10]), ([11, 7], [7, 11]), ([8, 12, 7], [7, 8, 12]), ([7, 13], [7, 13]), ([14, 7], [14]), ([15], [15]), ([15], [15]), ([15], [15]), ([18, 15], [15, 18]), ([17, 19, 15], [15, 17, 19]), ([20, 15], [15, 20]), ([15], [15]), ([15], [15]), ([22, 23, 15], [15, 22, 23]), ([24, 15], [15, 24]), ([21, 25, 15, 15], [15, 21, 25]), ([16, 26, 15], [15, 16, 26]), ([15, 27], [15, 27])])
def incipitlaw6_KeyChain.B18 : List Nat := [0, 0, 0, 4, 14, 30, 63, 127, 255, 255, 255, 1791, 3839, 8191, 16383, 32767, 65535, 65535, 65535, 327679, 983039, 2031615, 65535, 65535, 12648447, 29425663, 67043327, 134217727, 268435455]
theorem incipitlaw6_KeyChain.tab18 : rtab .any (opsOf Try.f3 18) = incipitlaw6_KeyChain.T18 := by kernel_rfl
theorem incipitlaw6_KeyChain.bits18 : waitsOk incipitlaw6_KeyChain.T18.2 incipitlaw6_KeyChain.B18 = true := by kernel_rfl
set_option maxHeartbeats 8000000 in
set_option maxRecDepth 100000 in
theorem incipitlaw6_KeyChain.calls (k : Nat) (A0 : Option Addr) (c0 : Nat) (l0 : List ByteArray) (r : Bool) (w : World) (hr0 : Kd.C Kd.string w A0 l0.length l0) (hc0 : l0.length ≤ c0) (h : incipitlaw6_KeyChain.f k l0 = some r) :
 Calls Try.prog 3 #[.slice A0 l0.length c0] w fun e w' => e = .returned (.bool r) ∧ Below w.heap.size w w' := by
 have HR0 := Aside0.mk hr0
 have HC0 := Aside0.mk hc0
 clear hr0 hc0
 have HB := Aside0.mk (Below.refl w.heap.size w)
 have H : ((incipitlaw6_begun.f).bind fun t438 => (if t438 = true then (incipitlaw6_KeyChain.l0 k l0 ([] : List ByteArray) 0) else (none))) = some r := h
 clear h
 replace H := Option.bind_eq_some_iff.mp H
 obtain ⟨t438, A20, H⟩ := H
 replace H : (if t438 = true then (incipitlaw6_KeyChain.l0 k l0 ([] : List ByteArray) 0) else (none)) = some r := H
 have A2 := Aside0.mk A20
 clear A20
 by_cases c3 : t438 = true
 · subst c3
   have H1 : (incipitlaw6_KeyChain.l0 k l0 ([] : List ByteArray) 0) = some r := by rw [if_pos rfl] at H; exact H
   clear H
   have H := H1
   clear H1
   have H' := Aside0.mk H
   clear H
   go_enter Try.func3, Try.ntmps3
   go_wp2_with (first | ((with_reducible refine gate_callee (f := 8) rfl ?_); refine goesL_ (some 10) rfl rfl Try.func8 (by kernel_rfl) rfl #[] rfl (by (try simp only [List.map_toArray, List.map_cons, List.map_nil]); first | done | rfl | (simp only [List.length_drop, List.length_take]; rfl)) ?_; (with_reducible refine (incipitlaw6_begun.calls  true _ A2.out).mono ?_); rintro e w4 ⟨rfl, hb⟩; refine ⟨_, rfl, ?_⟩; have n0_ := Aside0.mk (below_step (by repeat (first | (with_reducible first | exact HB.out | apply below_alloc | apply pw_below_drewN | apply below_drew1) | exact HB.out)) hb); clear HB; have HB := n0_; clear n0_; (try clear hb); (try clear hb2); (try clear hk); (try clear hi)))
   try simp only [Act.put, List.setIfInBounds_toArray, List.set_cons_succ, List.set_cons_zero]
   go_loopg [4, 5] k (fun kq v4 v5 w' => ∃ (x4_1 : List ByteArray) (x5_1 : Int), v5 = .int .i64 x5_1 ∧ Aside0 (incipitlaw6_KeyChain.l0 kq l0 x4_1 x5_1 = some r) ∧ Aside0 (kq ≤ k) ∧ Aside0 (Kd.R Kd.string 9 w' w.heap.size (fun _ => True) v4 x4_1) ∧ Aside0 (Below w.heap.size w w'))
   case atStart => exact ⟨(([] : List ByteArray)), (0), (by first | rfl | (simp; done) | (simp [*]; done)), H', ⟨Nat.le_refl _⟩, ⟨by first | exact Kd.R_nil _ _ _ _ _ | exact Kd.N_nil _ _ _ _ _ | exact Kd.V_nil _ _ _ _ _ | exact Kd.Q_nil _ _ _ _ _ | exact Kd.S_nil _ _ _ _ _⟩, ⟨by repeat (first | (with_reducible first | exact HB.out | apply below_alloc | apply pw_below_drewN | apply below_drew1) | exact HB.out)⟩⟩
   case round =>
    clear H'
    (try clear p2); (try clear c3)
    obtain ⟨x4_1, x5_1, rfl, HA, HK1, HO_4, HB⟩ := hrel
    cases gk with
    | zero => exact absurd HA.out (by simp [incipitlaw6_KeyChain.l0])
    | succ k1 =>
     have H := HA.out
     clear HA
     simp only [incipitlaw6_KeyChain.l0] at H
     have HC5 := Aside0.mk H
     clear H
     go_upto_region 6 with (fail)
     go_cut [20] (fun v20 wc => ∃ (kq : Nat) (x20_4 : Bool), v20 = .bool x20_4 ∧ Aside0 (incipitlaw6_KeyChain.j1 kq l0 x4_1 x5_1 x20_4 = some r) ∧ Aside0 (kq ≤ k1) ∧ Aside0 (Kd.R Kd.string 9 wc w.heap.size (fun _ => True) u4 x4_1) ∧ Aside0 (Below w.heap.size w wc))
     case first =>
      have H := HC5.out
      clear HC5
      by_cases c6 : x5_1 < (l0.length : Int)
      · rw [if_pos c6] at H
        have c6b0 : decide (x5_1 < (l0.length : Int)) = true := decide_eq_true c6
        clear c6
        (first | rw [c6b0] | (simp only [i64_w, i32_w]; rw [c6b0]) | skip)
        have H' := Aside0.mk H
        clear H
        go_wp2
        go_meet
        case rel => exact ⟨_, (decide (x5_1 < 12)), (by first | rfl | (simp; done) | (simp [*]; done)), H', ⟨by have := HK1.out; first | omega | exact Nat.le_refl _⟩, ⟨by (with_reducible repeat (first | apply Kd.R_alloc | apply Kd.R_drewN | apply Kd.R_drew)); exact HO_4.out⟩, ⟨by repeat (first | (with_reducible first | exact HB.out | apply below_alloc | apply pw_below_drewN | apply below_drew1) | exact HB.out)⟩⟩
      · rw [if_neg c6] at H
        have c6b0 : decide (x5_1 < (l0.length : Int)) = false := decide_eq_false c6
        clear c6
        (first | rw [c6b0] | (simp only [i64_w, i32_w]; rw [c6b0]) | skip)
        have H' := Aside0.mk H
        clear H
        go_wp2
        go_meet
        case rel => exact ⟨_, (false), (by first | rfl | (simp; done) | (simp [*]; done)), H', ⟨by have := HK1.out; first | omega | exact Nat.le_refl _⟩, ⟨by (with_reducible repeat (first | apply Kd.R_alloc | apply Kd.R_drewN | apply Kd.R_drew)); exact HO_4.out⟩, ⟨by repeat (first | (with_reducible first | exact HB.out | apply below_alloc | apply pw_below_drewN | apply below_drew1) | exact HB.out)⟩⟩
     case rest =>
      clear HC5
      (try clear p2); (try clear c3); (try clear c6); (try clear c6b0); (try clear p2)
      obtain ⟨kq, x20_4, rfl, HA, HJ4, HO_4, HB⟩ := hcut
      cases kq with
      | zero => exact absurd HA.out (by simp [incipitlaw6_KeyChain.j1])
      | succ kj4 =>
       have H := HA.out
       clear HA
       simp only [incipitlaw6_KeyChain.j1] at H
       by_cases c7 : x20_4 = true
       · subst c7
         have H1 : (if 0 ≤ x5_1 then (if x5_1 < (l0.length : Int) then ((incipitlaw1_Cut.f (rdOf ByteArray.empty l0 x5_1) 30).bind fun t440 => (incipitlaw6_KeyChain.l1 kj4 l0 x4_1 x5_1 t440 0)) else (none)) else (none)) = some r := by rw [if_pos rfl] at H; exact H
         clear H
         have H := H1
         clear H1
         by_cases c8 : 0 ≤ x5_1
         · as_aux_lemma =>
           rw [if_pos c8] at H
           have c8b0 : decide (0 ≤ x5_1) = true := decide_eq_true c8
           clear c8
           by_cases c9 : x5_1 < (l0.length : Int)
           · as_aux_lemma =>
             rw [if_pos c9] at H
             have c9b0 : decide (x5_1 < (l0.length : Int)) = true := decide_eq_true c9
             clear c9
             replace H := Option.bind_eq_some_iff.mp H
             obtain ⟨t440, A100, H⟩ := H
             replace H : (incipitlaw6_KeyChain.l1 kj4 l0 x4_1 x5_1 t440 0) = some r := H
             have A10 := Aside0.mk A100
             clear A100
             have H' := Aside0.mk H
             clear H
             have p439 : 0 ≤ (x5_1 : Int) := of_decide_eq_true (by first | (with_reducible assumption) | assumption)
             have q439 : x5_1 < (l0.length : Int) := of_decide_eq_true (by first | (with_reducible assumption) | assumption)
             obtain ⟨ad439, e439, hx439_0⟩ := Kd.at_string HR0.out x5_1 p439 q439
             cases e439
             replace hx439_0 := (HB.out.cell (World.block_lt_of_cell? w _ hx439_0)).trans hx439_0
             replace p439 := eq_true p439
             replace q439 := eq_true q439
             go_wp2_with (first | ((with_reducible refine gate_callee (f := 9) rfl ?_); refine goesL_ (some 27) rfl rfl Try.func9 (by kernel_rfl) rfl #[.string (rdOf ByteArray.empty l0 x5_1), .int .i64 30] rfl (by (try simp only [List.map_toArray, List.map_cons, List.map_nil]); first | done | rfl | (simp only [List.length_drop, List.length_take]; rfl)) ?_; (with_reducible refine (incipitlaw1_Cut.calls (rdOf ByteArray.empty l0 x5_1) 30 t440 _ A10.out).mono ?_); rintro e w' ⟨rfl, ⟨nd, rfl⟩⟩; refine ⟨_, rfl, ?_⟩))
             try simp only [Act.put, List.setIfInBounds_toArray, List.set_cons_succ, List.set_cons_zero]
             go_loopg [7] kj4 (fun kq v7 w' => ∃ (x7_3 : Int), v7 = .int .i64 x7_3 ∧ Aside0 (incipitlaw6_KeyChain.l1 kq l0 x4_1 x5_1 t440 x7_3 = some r) ∧ Aside0 (kq ≤ kj4) ∧ Aside0 (Kd.R Kd.string 9 w' w.heap.size (fun _ => True) u4 x4_1) ∧ Aside0 (Below w.heap.size w w'))
             case atStart => exact ⟨(0), (by first | rfl | (simp; done) | (simp [*]; done)), H', ⟨Nat.le_refl _⟩, ⟨by (with_reducible repeat (first | apply Kd.R_alloc | apply Kd.R_drewN | apply Kd.R_drew)); exact HO_4.out⟩, ⟨by repeat (first | (with_reducible first | exact HB.out | apply below_alloc | apply pw_below_drewN | apply below_drew1) | exact HB.out)⟩⟩
             case round =>
              clear H'
              (try clear p2); (try clear c3); (try clear p4); (try clear q4); (try clear hx4); (try clear c6); (try clear c6b0); (try clear c7); (try clear c8); (try clear c8b0); (try clear c9); (try clear c9b0); (try clear hx439_0); (try clear p2); (try clear p439); (try clear q439)
              obtain ⟨x7_3, rfl, HA, HK3, HO_4, HB⟩ := hrel
              cases gk with
              | zero => exact absurd HA.out (by simp [incipitlaw6_KeyChain.l1])
              | succ k3 =>
               have H := HA.out
               clear HA
               simp only [incipitlaw6_KeyChain.l1] at H
               by_cases c11 : x7_3 < (x4_1.length : Int)
               · as_aux_lemma =>
                 rw [if_pos c11] at H
                 have c11b0 : decide (x7_3 < (x4_1.length : Int)) = true := decide_eq_true c11
                 clear c11
                 by_cases c12 : 0 ≤ x7_3
                 · as_aux_lemma =>
                   rw [if_pos c12] at H
                   have c12b0 : decide (0 ≤ x7_3) = true := decide_eq_true c12
                   clear c12
                   by_cases c13 : (Op.bytesLess ((rdOf ByteArray.empty x4_1 x7_3).toList) t440.toList) = true
                   · rw [if_pos c13] at H
                     have c13b0 : (Op.bytesLess ((rdOf ByteArray.empty x4_1 x7_3).toList) t440.toList) = true := c13
                     clear c13
                     have H' := Aside0.mk H
                     clear H
                     obtain ⟨Ao14, co14, eo14⟩ := Kd.R_slice HO_4.out
                     subst eo14
                     have p441 : 0 ≤ (x7_3 : Int) := of_decide_eq_true (by first | (with_reducible assumption) | assumption)
                     have q441 : x7_3 < (x4_1.length : Int) := of_decide_eq_true (by first | (with_reducible assumption) | assumption)
                     obtain ⟨ad441, e441, hx441_0⟩ := Kd.at_string (Kd.R_reads' HO_4.out).2.2 x7_3 p441 q441
                     cases e441
                     replace p441 := eq_true p441
                     replace q441 := eq_true q441
                     go_wp2
                     go_roundg k3
                     case measure => have := HK1.out; have := HJ4.out; have := HK3.out; omega
                     case rel => exact ⟨(wrap64 (x7_3 + 1)), (by first | rfl | (simp; done) | (simp [*]; done)), H', ⟨by have := HK1.out; have := HJ4.out; have := HK3.out; omega⟩, ⟨by (with_reducible repeat (first | apply Kd.R_alloc | apply Kd.R_drewN | apply Kd.R_drew)); exact HO_4.out⟩, ⟨by repeat (first | (with_reducible first | exact HB.out | apply below_alloc | apply pw_below_drewN | apply below_drew1) | exact HB.out)⟩⟩
                   · as_aux_lemma =>
                     rw [if_neg c13] at H
                     have c13b0 : (Op.bytesLess ((rdOf ByteArray.empty x4_1 x7_3).toList) t440.toList) = false := by simpa using c13
                     clear c13
                     by_cases c15 : x7_3 = (x4_1.length : Int)
                     · as_aux_lemma =>
                       rw [if_pos c15] at H
                       have c15b0 : (x7_3 == (x4_1.length : Int)) = true := beq_iff_eq.mpr c15
                       have c15b1 : (x7_3 != (x4_1.length : Int)) = false := bne_eq_false_iff_eq.mpr c15
                       clear c15
                       have c16b0 := eq_true (of_decide_eq_true (by first | (with_reducible assumption) | assumption) : 0 ≤ x7_3)
                       by_cases c17 : x7_3 ≤ (x4_1.length : Int)
                       · as_aux_lemma =>
                         rw [if_pos c17] at H
                         have c17b0 := eq_true c17
                         have c17b1 : decide (x7_3 ≤ (x4_1.length : Int)) = true := decide_eq_true c17
                         clear c17
                         obtain ⟨y442, hy442⟩ : ∃ y_ : List ByteArray, y_ = (x4_1.take (x7_3 : Int).toNat) := ⟨_, rfl⟩
                         replace H : ((some (([t440] : List ByteArray) : List ByteArray)).bind fun y446 => ((some (x4_1.drop (x7_3 : Int).toNat : List ByteArray)).bind fun y449 => (if y446.length + y449.length < 8796093022208 then ((some (y446 ++ y449 : List ByteArray)).bind fun y453 => (if y442.length + y453.length < 8796093022208 then (incipitlaw6_KeyChain.l0 k3 l0 (y442 ++ y453) (wrap64 (x5_1 + 1))) else (none))) else (none)))) = some r := by first | (rw [hy442]; with_reducible exact H) | (have H2_ := (Option.bind_some _ _).symm.trans H; rw [hy442]; with_reducible exact H2_) | (have H2_ := (Option.bind_some _ _).symm.trans H; with_reducible exact H2_) | with_reducible exact H | (rw [hy442]; exact H) | exact H
                         have Ny442 := Aside0.mk hy442
                         clear hy442
                         obtain ⟨y446, hy446⟩ : ∃ y_ : List ByteArray, y_ = (([t440] : List ByteArray)) := ⟨_, rfl⟩
                         replace H : ((some (x4_1.drop (x7_3 : Int).toNat : List ByteArray)).bind fun y449 => (if y446.length + y449.length < 8796093022208 then ((some (y446 ++ y449 : List ByteArray)).bind fun y453 => (if y442.length + y453.length < 8796093022208 then (incipitlaw6_KeyChain.l0 k3 l0 (y442 ++ y453) (wrap64 (x5_1 + 1))) else (none))) else (none))) = some r := by first | (rw [hy446]; with_reducible exact H) | (have H2_ := (Option.bind_some _ _).symm.trans H; rw [hy446]; with_reducible exact H2_) | (have H2_ := (Option.bind_some _ _).symm.trans H; with_reducible exact H2_) | with_reducible exact H | (rw [hy446]; exact H) | exact H
                         have Ny446 := Aside0.mk hy446
                         clear hy446
                         have c18b0 := eq_true (of_decide_eq_true (by first | (with_reducible assumption) | assumption) : 0 ≤ x7_3)
                         have c19b0 := eq_true (of_decide_eq_true (by first | (with_reducible assumption) | assumption) : x7_3 ≤ (x4_1.length : Int))
                         obtain ⟨y449, hy449⟩ : ∃ y_ : List ByteArray, y_ = (x4_1.drop (x7_3 : Int).toNat) := ⟨_, rfl⟩
                         replace H : (if y446.length + y449.length < 8796093022208 then ((some (y446 ++ y449 : List ByteArray)).bind fun y453 => (if y442.length + y453.length < 8796093022208 then (incipitlaw6_KeyChain.l0 k3 l0 (y442 ++ y453) (wrap64 (x5_1 + 1))) else (none))) else (none)) = some r := by first | (rw [hy449]; with_reducible exact H) | (have H2_ := (Option.bind_some _ _).symm.trans H; rw [hy449]; with_reducible exact H2_) | (have H2_ := (Option.bind_some _ _).symm.trans H; with_reducible exact H2_) | with_reducible exact H | (rw [hy449]; exact H) | exact H
                         have Ny449 := Aside0.mk hy449
                         clear hy449
                         by_cases c20 : y446.length + y449.length < 8796093022208
                         · as_aux_lemma =>
                           rw [if_pos c20] at H
                           have LMc20 := Aside0.mk c20
                           clear c20
                           obtain ⟨y453, hy453⟩ : ∃ y_ : List ByteArray, y_ = (y446 ++ y449) := ⟨_, rfl⟩
                           replace H : (if y442.length + y453.length < 8796093022208 then (incipitlaw6_KeyChain.l0 k3 l0 (y442 ++ y453) (wrap64 (x5_1 + 1))) else (none)) = some r := by first | (rw [hy453]; with_reducible exact H) | (have H2_ := (Option.bind_some _ _).symm.trans H; rw [hy453]; with_reducible exact H2_) | (have H2_ := (Option.bind_some _ _).symm.trans H; with_reducible exact H2_) | with_reducible exact H | (rw [hy453]; exact H) | exact H
                           have Ny453 := Aside0.mk hy453
                           clear hy453
                           by_cases c21 : y442.length + y453.length < 8796093022208
                           · as_aux_lemma =>
                             rw [if_pos c21] at H
                             have LMc21 := Aside0.mk c21
                             clear c21
                             obtain ⟨y456, hy456⟩ : ∃ y_ : List ByteArray, y_ = (y442 ++ y453) := ⟨_, rfl⟩
                             replace H : (incipitlaw6_KeyChain.l0 k3 l0 y456 (wrap64 (x5_1 + 1))) = some r := by first | (rw [hy456]; with_reducible exact H) | (have H2_ := (Option.bind_some _ _).symm.trans H; rw [hy456]; with_reducible exact H2_) | (have H2_ := (Option.bind_some _ _).symm.trans H; with_reducible exact H2_) | with_reducible exact H | (rw [hy456]; exact H) | exact H
                             have Ny456 := Aside0.mk hy456
                             clear hy456
                             have H' := Aside0.mk H
                             clear H
                             obtain ⟨Ao22, co22, eo22⟩ := Kd.R_slice HO_4.out
                             subst eo22
                             have p441 : 0 ≤ (x7_3 : Int) := of_decide_eq_true (by first | (with_reducible assumption) | assumption)
                             have q441 : x7_3 < (x4_1.length : Int) := of_decide_eq_true (by first | (with_reducible assumption) | assumption)
                             obtain ⟨ad441, e441, hx441_0⟩ := Kd.at_string (Kd.R_reads' HO_4.out).2.2 x7_3 p441 q441
                             cases e441
                             replace p441 := eq_true p441
                             replace q441 := eq_true q441
                             try go_wp2
                             have n0_ := Aside0.mk (Kd.R_drew HO_4.out)
                             have n1_ := Aside0.mk (below_drew1 HB.out)
                             clear HO_4
                             clear HB
                             have HO_4 := n0_
                             have HB := n1_
                             clear n0_ n1_
                             have q24 : (x7_3 : Int) ≤ ((x4_1.length : Int) : Int) := of_decide_eq_true (by first | (with_reducible assumption) | assumption)
                             obtain ⟨i024, hi024, _, hsz24, _⟩ := info_parts info9
                             have hroom24 : x4_1.length ≤ co22 := (Kd.R_reads' HO_4.out).2.1
                             have hC24 : Kd.C Kd.string _ (some ad441) x4_1.length x4_1 := (Kd.R_reads' HO_4.out).2.2
                             have hcut24 := cut_cap (P := Try.prog) 22 9 .i64 Try.underlying22 hi024 (some ad441) x4_1.length co22 x7_3 (of_decide_eq_true (by first | (with_reducible assumption) | assumption)) q24 hroom24
                             have hr24 := Kd.C_take (m := (x7_3 : Int).toNat) hC24 (by omega)
                             have hy24 : y442.length = (x7_3 : Int).toNat := (by rw [Ny442.out, List.length_take]; omega)
                             rw [← Ny442.out] at hr24
                             rw [← hy24] at hcut24
                             have HR445 := Aside0.mk hr24
                             have HC445 := Aside0.mk (show y442.length ≤ y442.length from by omega)
                             clear hr24 hC24 hroom24 hi024 hsz24
                             have KY24 := Aside0.mk hy24
                             clear hy24
                             have KL24 := Aside0.mk (show (x7_3 : Int).toNat ≤ x4_1.length from by omega)
                             replace q24 := eq_true q24
                             have q25 : (x7_3 : Int) ≤ ((x4_1.length : Int) : Int) := of_decide_eq_true (by first | (with_reducible assumption) | assumption)
                             obtain ⟨i025, hi025, _, hsz25, _⟩ := info_parts info9
                             have hroom25 : x4_1.length ≤ co22 := (Kd.R_reads' HO_4.out).2.1
                             have hC25 : Kd.C Kd.string _ (some ad441) x4_1.length x4_1 := (Kd.R_reads' HO_4.out).2.2
                             have q025 : (0 : Int) ≤ (x7_3 : Int) := of_decide_eq_true (by first | (with_reducible assumption) | assumption)
                             have hcut25 := cut_from (P := Try.prog) 22 9 .i64 Try.underlying22 hi025 1 hsz25 (some ad441) x4_1.length co22 x7_3 q025 q25
                             have hr25 := Kd.C_drop (m := (x7_3 : Int).toNat) (c := co22) hC25 (by omega) hroom25
                             obtain ⟨A25, hA25⟩ : ∃ A1, A1 = (if co22 = (x7_3 : Int).toNat then (some ad441) else ((some ad441) : Option Addr).map (·.add ((x7_3 : Int).toNat * 1))) := ⟨_, rfl⟩
                             obtain ⟨c25, hc25⟩ : ∃ c1, c1 = co22 - (x7_3 : Int).toNat := ⟨_, rfl⟩
                             have hy25 : y449.length = x4_1.length - (x7_3 : Int).toNat := (by rw [Ny449.out, List.length_drop] <;> omega)
                             rw [show (x4_1).drop (x7_3 : Int).toNat = y449 from Ny449.out.symm] at hr25
                             replace hr25 : Kd.C Kd.string _ A25 y449.length y449 := (by rw [hA25]; exact hr25)
                             rw [← hy25, ← hA25, ← hc25] at hcut25
                             have HR452 := Aside0.mk hr25
                             have HC452 := Aside0.mk (show y449.length ≤ c25 from by rw [hy25, hc25]; exact Nat.sub_le_sub_right hroom25 _)
                             clear hr25 hC25 hroom25 hi025 hsz25 hc25
                             have KY25 := Aside0.mk hy25
                             have KA25 := Aside0.mk hA25
                             clear hy25 hA25
                             have KL25 := Aside0.mk (show (x7_3 : Int).toNat ≤ x4_1.length from by omega)
                             replace q25 := eq_true q25
                             refine start_ (n := 12) (S := fun w' => True) (ds := []) #[false, false, false, false, false, false, false, false, false, false, false, false] (by kernel_rfl) rfl rfl trivial (fun hHeld => ?_); refine with_tabW incipitlaw6_KeyChain.tab13 incipitlaw6_KeyChain.bits13 (fun HT_ HW_ => ?_)
                             generalize wr.drew = w23 at HO_4 HB HR445 HR452 hHeld ⊢
                             refine pure_ (i := 0) (N := some 54) (v := ?_) (a' := ?_) #[true, false, false, false, false, false, false, false, false, false, false, false] rfl rfl (any_of HT_.out (by kernel_rfl)) (fun _ _ _ h => h) (Or.inl ⟨by rfl, ?_⟩) ?_ ?_
                             rotate_left
                             · intro w'
                               go_simp
                               with_reducible rfl
                             rotate_left
                             · simp only [Act.put, List.setIfInBounds_toArray, List.set_cons_zero, List.set_cons_succ, i64_w, i32_w]
                               rfl
                             refine pure_ (i := 1) (N := some 55) (v := ?_) (a' := ?_) #[true, true, false, false, false, false, false, false, false, false, false, false] rfl rfl (any_of HT_.out (by kernel_rfl)) (fun _ _ _ h => h) (Or.inl ⟨by rfl, ?_⟩) ?_ ?_
                             rotate_left
                             · intro w'
                               go_simp
                               with_reducible rfl
                             rotate_left
                             · simp only [Act.put, List.setIfInBounds_toArray, List.set_cons_zero, List.set_cons_succ, i64_w, i32_w]
                               rfl
                             refine pure_ (i := 2) (N := some 56) (v := ?_) (a' := ?_) #[true, true, true, false, false, false, false, false, false, false, false, false] rfl rfl (any_of HT_.out (by kernel_rfl)) (fun _ _ _ h => h) (Or.inl ⟨by rfl, ?_⟩) ?_ ?_
                             rotate_left
                             · intro w'
                               go_simp
                               with_reducible rfl
                             rotate_left
                             · simp only [Act.put, List.setIfInBounds_toArray, List.set_cons_zero, List.set_cons_succ, i64_w, i32_w]
                               rfl
                             refine pure_ (i := 3) (N := some 57) (v := ?_) (a' := ?_) #[true, true, true, true, false, false, false, false, false, false, false, false] rfl rfl (any_of HT_.out (by kernel_rfl)) (fun _ _ _ h => h) (Or.inl ⟨by rfl, ?_⟩) ?_ ?_
                             rotate_left
                             · intro w'
                               go_simp
                               with_reducible rfl
                             rotate_left
                             · simp only [Act.put, List.setIfInBounds_toArray, List.set_cons_zero, List.set_cons_succ, i64_w, i32_w]
                               rfl
                             refine pure_ (i := 4) (N := some 58) (v := ?_) (a' := ?_) #[true, true, true, true, true, false, false, false, false, false, false, false] rfl rfl (any_of HT_.out (by kernel_rfl)) (fun _ _ _ h => h) (Or.inl ⟨by rfl, ?_⟩) ?_ ?_
                             rotate_left
                             · intro w'
                               go_simp
                               with_reducible rfl
                             rotate_left
                             · simp only [Act.put, List.setIfInBounds_toArray, List.set_cons_zero, List.set_cons_succ, i64_w, i32_w]
                               rfl
                             refine pure_ (i := 6) (N := some 60) (v := ?_) (a' := ?_) #[true, true, true, true, true, false, true, false, false, false, false, false] rfl rfl (any_of HT_.out (by kernel_rfl)) (fun _ _ _ h => h) (Or.inl ⟨by rfl, ?_⟩) ?_ ?_
                             rotate_left
                             · intro w'
                               go_simp
                               with_reducible rfl
                             rotate_left
                             · simp only [Act.put, List.setIfInBounds_toArray, List.set_cons_zero, List.set_cons_succ, i64_w, i32_w]
                               rfl
                             refine pure_ (i := 7) (N := some 61) (v := ?_) (a' := ?_) #[true, true, true, true, true, false, true, true, false, false, false, false] rfl rfl (any_of HT_.out (by kernel_rfl)) (fun _ _ _ h => h) (Or.inl ⟨by rfl, ?_⟩) ?_ ?_
                             rotate_left
                             · intro w'
                               go_simp
                               with_reducible rfl
                             rotate_left
                             · simp only [Act.put, List.setIfInBounds_toArray, List.set_cons_zero, List.set_cons_succ, i64_w, i32_w]
                               rfl
                             refine pure_ (i := 8) (N := some 62) (v := ?_) (a' := ?_) #[true, true, true, true, true, false, true, true, true, false, false, false] rfl rfl (any_of HT_.out (by kernel_rfl)) (fun _ _ _ h => h) (Or.inl ⟨by rfl, ?_⟩) ?_ ?_
                             rotate_left
                             · intro w'
                               go_simp
                               with_reducible rfl
                             rotate_left
                             · simp only [Act.put, List.setIfInBounds_toArray, List.set_cons_zero, List.set_cons_succ, i64_w, i32_w]
                               rfl
                             refine one_ (i := 5) (N := some 59) #[true, true, true, true, true, true, true, true, true, false, false, false] rfl rfl (one_of HT_.out (by kernel_rfl)) (by decide) (fun K hK => ?_)
                             refine Kd.R_lit_step Kd.string _ 9 ?hg (N := 59) ?hd (xs := ([t440] : List ByteArray)) (inner := [.string t440]) (ok := fun _ => True) (okp := fun _ => True) ?hr ?hp (fun _ hk => hk) trivial (Below.refl _ _) (Nat.le_refl _) (by simp) ?_; (case hd => rfl); (case hg => rfl); (case hr => first | (go_simp; done) | (go_simp; rfl)); (case hp => exact (Reps.one (show Kd.M Kd.string _ _ _ t440 [.string t440] from rfl) (Reps.none _ _)))
                             intro v447 w26 ho27 hb hg_ hnew_
                             clear hg_ hnew_
                             (first | rw [← Ny446.out] at ho27 | (simp only [Int.reduceToNat] at ho27; rw [← Ny446.out] at ho27))
                             have n0_ := Aside0.mk (Kd.R_elder' (by (with_reducible repeat (first | apply Kd.R_alloc | apply Kd.R_drewN | apply Kd.R_drew)); exact HO_4.out) (Kd.R_base ho27) hb)
                             have n1_ := Aside0.mk (Kd.R_lower (Kd.R_new' ho27 (Kd.R_lt (by (with_reducible repeat (first | apply Kd.R_alloc | apply Kd.R_drewN | apply Kd.R_drew)); exact HO_4.out))) (below_size (by repeat (first | (with_reducible first | exact HB.out | apply below_alloc | apply pw_below_drewN | apply below_drew1) | exact HB.out))))
                             have n2_ := Aside0.mk (Kd.C_below (by repeat (first | (with_reducible exact HR445.out) | (with_reducible refine Kd.C_alloc ?_ _) | (with_reducible refine Kd.C_drewN ?_ _) | (with_reducible refine Kd.C_drew ?_) | exact HR445.out)) hb)
                             have n3_ := Aside0.mk (Kd.C_below (by repeat (first | (with_reducible exact HR452.out) | (with_reducible refine Kd.C_alloc ?_ _) | (with_reducible refine Kd.C_drewN ?_ _) | (with_reducible refine Kd.C_drew ?_) | exact HR452.out)) hb)
                             have n4_ := Aside0.mk (below_step (by repeat (first | (with_reducible first | exact HB.out | apply below_alloc | apply pw_below_drewN | apply below_drew1) | exact HB.out)) hb)
                             clear HO_4
                             clear HR445
                             clear HR452
                             clear HB
                             have HO_4 := n0_
                             have HO448 := n1_
                             have HR445 := n2_
                             have HR452 := n3_
                             have HB := n4_
                             clear n0_ n1_ n2_ n3_ n4_
                             clear hb ho27
                             refine hK.out _ _ trivial (fun hHeld => ?_)
                             clear hK K
                             refine norm_ (a' := ?_) ?_ ?_
                             rotate_left
                             · show Act.put _ (some 59) _ = _
                               simp only [Act.put, List.setIfInBounds_toArray, List.set_cons_zero, List.set_cons_succ, i64_w, i32_w]
                               rfl
                             refine one_ (i := 9) (N := some 63) #[true, true, true, true, true, true, true, true, true, true, false, false] rfl rfl (one_of HT_.out (by kernel_rfl)) (by decide) (fun K hK => ?_)
                             refine Kd.R_append_rows_step Kd.string (w0 := w) w.heap.size (by rfl) (.tmp 59) (.tmp 62) 22 9 (.string ⟨#[]⟩) 16 rfl Try.underlying22 info9 rfl (by decide) (by omega) v447 y446 y449 _ _ _ (fun k_ => some k_ ≠ (.slice (some ad441) x4_1.length co22 : Value).ownBlock) (fun _ => False) rfl rfl ?aO ?aR (fun _ _ h => h) (fun _ h => h.elim) ?aF ?aB ?aS ?aL ?_
                             (case aR => repeat (first | exact (by repeat (first | (with_reducible exact HR452.out) | (with_reducible refine Kd.C_alloc ?_ _) | (with_reducible refine Kd.C_drewN ?_ _) | (with_reducible refine Kd.C_drew ?_) | exact HR452.out)) | (with_reducible refine Kd.C_alloc ?_ _) | (with_reducible refine Kd.C_drewN ?_ _) | (with_reducible refine Kd.C_drew ?_)))
                             (case aB => exact (by repeat (first | (with_reducible first | exact HB.out | apply below_alloc | apply pw_below_drewN | apply below_drew1) | exact HB.out)))
                             (case aF => exact (fun k_ hk => Kd.fresh' (Kd.R_lt (by (with_reducible repeat (first | apply Kd.R_alloc | apply Kd.R_drewN | apply Kd.R_drew)); exact HO_4.out)) k_ hk))
                             (case aO => exact (by (with_reducible repeat (first | apply Kd.R_alloc | apply Kd.R_drewN | apply Kd.R_drew)); exact Kd.R_mono HO448.out (fun _ hk => hk.2)))
                             (case aS => exact (below_size (by repeat (first | (with_reducible first | exact HB.out | apply below_alloc | apply pw_below_drewN | apply below_drew1) | exact HB.out))))
                             (case aL => have := LMc20.out; omega)
                             intro v454 w28 ho hb hg hat
                             rw [← Ny453.out] at ho
                             have n0_ := Aside0.mk (Kd.R_after (ok := (fun _ => True)) (by (with_reducible repeat (first | apply Kd.R_alloc | apply Kd.R_drewN | apply Kd.R_drew)); exact HO_4.out) hg hat)
                             have n1_ := Aside0.mk (hb)
                             have n2_ := Aside0.mk ((show Kd.C Kd.string w28 (some ad441) y442.length y442 from by rw [Ny442.out]; exact Kd.C_take (m := (x7_3 : Int).toNat) ((Kd.R_reads' (Kd.R_after (ok := (fun _ => True)) (by (with_reducible repeat (first | apply Kd.R_alloc | apply Kd.R_drewN | apply Kd.R_drew)); exact HO_4.out) hg hat)).2.2) KL24.out))
                             have n3_ := Aside0.mk ((show Kd.C Kd.string w28 A25 y449.length y449 from by rw [Ny449.out, KA25.out]; exact Kd.C_drop (m := (x7_3 : Int).toNat) (c := co22) ((Kd.R_reads' (Kd.R_after (ok := (fun _ => True)) (by (with_reducible repeat (first | apply Kd.R_alloc | apply Kd.R_drewN | apply Kd.R_drew)); exact HO_4.out) hg hat)).2.2) KL25.out ((Kd.R_reads' (Kd.R_after (ok := (fun _ => True)) (by (with_reducible repeat (first | apply Kd.R_alloc | apply Kd.R_drewN | apply Kd.R_drew)); exact HO_4.out) hg hat)).2.1)))
                             have n4_ := Aside0.mk (ho)
                             clear HO_4
                             clear HB
                             clear HR445
                             clear HR452
                             clear HO448
                             have HO_4 := n0_
                             have HB := n1_
                             have HR445 := n2_
                             have HR452 := n3_
                             have HO455 := n4_
                             clear n0_ n1_ n2_ n3_ n4_
                             clear ho hb hg hat
                             obtain ⟨Ao30, co30, eo30⟩ := Kd.R_slice HO455.out
                             (first | subst eo30 | (injection eo30 with f1_ f2_ f3_; have f4_ := f1_.symm; have f5_ := f3_.symm; clear f1_ f2_ f3_; subst f4_; subst f5_))
                             refine hK.out _ _ trivial (fun hHeld => ?_)
                             clear hK K
                             refine norm_ (a' := ?_) ?_ ?_
                             rotate_left
                             · show Act.put _ (some 63) _ = _
                               simp only [Act.put, List.setIfInBounds_toArray, List.set_cons_zero, List.set_cons_succ, i64_w, i32_w]
                               rfl
                             refine one_ (i := 10) (N := some 64) #[true, true, true, true, true, true, true, true, true, true, true, false] rfl rfl (one_of HT_.out (by kernel_rfl)) (by decide) (fun K hK => ?_)
                             refine S_append_full_step (w0 := w) w.heap.size (by rfl) (.tmp 57) (.tmp 63) 22 9 (.string ⟨#[]⟩) 16 rfl Try.underlying22 info9 rfl (by omega) (some ad441) y442.length y442 y453 _ _ _ (fun k_ => some k_ ≠ (.slice (some ad441) x4_1.length co22 : Value).ownBlock ∧ some k_ ≠ (.slice Ao30 y453.length co30 : Value).ownBlock) rfl rfl ?aO ?aR ?aY ?aF ?aB ?aS ?aL ?_
                             (case aR => repeat (first | exact (Kd.R_reads' HO455.out).2.2 | (with_reducible refine Kd.C_alloc ?_ _) | (with_reducible refine Kd.C_drewN ?_ _) | (with_reducible refine Kd.C_drew ?_)))
                             (case aY => (have hq_ : 0 < y446.length := (by rw [Ny446.out]; simp); rw [Ny453.out, List.length_append]; omega))
                             (case aB => exact (by repeat (first | (with_reducible first | exact HB.out | apply below_alloc | apply pw_below_drewN | apply below_drew1) | exact HB.out)))
                             (case aF => exact (fun k_ hk => ⟨Kd.fresh' (Kd.R_lt (by (with_reducible repeat (first | apply Kd.R_alloc | apply Kd.R_drewN | apply Kd.R_drew)); exact HO_4.out)) k_ hk, Kd.fresh' (Kd.R_lt (by (with_reducible repeat (first | apply Kd.R_alloc | apply Kd.R_drewN | apply Kd.R_drew)); exact HO455.out)) k_ hk⟩))
                             (case aO => exact (by repeat (first | (with_reducible exact HR445.out) | (with_reducible refine Kd.C_alloc ?_ _) | (with_reducible refine Kd.C_drewN ?_ _) | (with_reducible refine Kd.C_drew ?_) | exact HR445.out)))
                             (case aS => exact (below_size (by repeat (first | (with_reducible first | exact HB.out | apply below_alloc | apply pw_below_drewN | apply below_drew1) | exact HB.out))))
                             (case aL => have := LMc21.out; omega)
                             intro v457 w29 ho hb hg hat
                             rw [← Ny456.out] at ho
                             have n0_ := Aside0.mk (Kd.R_after (Kd.R_apart_nil (by (with_reducible repeat (first | apply Kd.R_alloc | apply Kd.R_drewN | apply Kd.R_drew)); exact HO_4.out)) hg hat)
                             have n1_ := Aside0.mk (Kd.R_after (Kd.R_apart_nil (by (with_reducible repeat (first | apply Kd.R_alloc | apply Kd.R_drewN | apply Kd.R_drew)); exact HO455.out)) hg hat)
                             have n2_ := Aside0.mk (hb)
                             have n3_ := Aside0.mk ((show Kd.C Kd.string w29 (some ad441) y442.length y442 from by rw [Ny442.out]; exact Kd.C_take (m := (x7_3 : Int).toNat) ((Kd.R_reads' (Kd.R_after (Kd.R_apart_nil (by (with_reducible repeat (first | apply Kd.R_alloc | apply Kd.R_drewN | apply Kd.R_drew)); exact HO_4.out)) hg hat)).2.2) KL24.out))
                             have n4_ := Aside0.mk ((show Kd.C Kd.string w29 A25 y449.length y449 from by rw [Ny449.out, KA25.out]; exact Kd.C_drop (m := (x7_3 : Int).toNat) (c := co22) ((Kd.R_reads' (Kd.R_after (Kd.R_apart_nil (by (with_reducible repeat (first | apply Kd.R_alloc | apply Kd.R_drewN | apply Kd.R_drew)); exact HO_4.out)) hg hat)).2.2) KL25.out ((Kd.R_reads' (Kd.R_after (Kd.R_apart_nil (by (with_reducible repeat (first | apply Kd.R_alloc | apply Kd.R_drewN | apply Kd.R_drew)); exact HO_4.out)) hg hat)).2.1)))
                             have n5_ := Aside0.mk (ho)
                             clear HO_4
                             clear HO455
                             clear HB
                             clear HR445
                             clear HR452
                             have HO_4 := n0_
                             have HO455 := n1_
                             have HB := n2_
                             have HR445 := n3_
                             have HR452 := n4_
                             have HO458 := n5_
                             clear n0_ n1_ n2_ n3_ n4_ n5_
                             clear ho hb hg hat
                             refine hK.out _ _ trivial (fun hHeld => ?_)
                             clear hK K
                             refine norm_ (a' := ?_) ?_ ?_
                             rotate_left
                             · show Act.put _ (some 64) _ = _
                               simp only [Act.put, List.setIfInBounds_toArray, List.set_cons_zero, List.set_cons_succ, i64_w, i32_w]
                               rfl
                             refine pure_ (i := 11) (N := some 4) (v := ?_) (a' := ?_) #[true, true, true, true, true, true, true, true, true, true, true, true] rfl rfl (any_of HT_.out (by kernel_rfl)) (fun _ _ _ h => h) (Or.inl ⟨by rfl, ?_⟩) ?_ ?_
                             rotate_left
                             · intro w'
                               go_simp
                               with_reducible rfl
                             rotate_left
                             · simp only [Act.put, List.setIfInBounds_toArray, List.set_cons_zero, List.set_cons_succ, i64_w, i32_w]
                               rfl
                             refine done_ (done_of HT_.out (by kernel_rfl)) ?_
                             try go_wp2
                             go_roundg k3
                             case measure => have := HK1.out; have := HJ4.out; have := HK3.out; omega
                             case rel => exact ⟨(y456), (wrap64 (x5_1 + 1)), (by first | rfl | (simp; done) | (simp [*]; done)), H', ⟨by have := HK1.out; have := HJ4.out; have := HK3.out; omega⟩, ⟨by (with_reducible repeat (first | apply Kd.R_alloc | apply Kd.R_drewN | apply Kd.R_drew)); exact Kd.R_mono HO458.out (fun _ hk => trivial)⟩, ⟨by repeat (first | (with_reducible first | exact HB.out | apply below_alloc | apply pw_below_drewN | apply below_drew1) | exact HB.out)⟩⟩
                           · rw [if_neg c21] at H
                             exact absurd H (by simp)
                         · rw [if_neg c20] at H
                           exact absurd H (by simp)
                       · rw [if_neg c17] at H
                         exact absurd H (by simp)
                     · as_aux_lemma =>
                       rw [if_neg c15] at H
                       have c15b0 : (x7_3 == (x4_1.length : Int)) = false := beq_eq_false_iff_ne.mpr c15
                       have c15b1 : (x7_3 != (x4_1.length : Int)) = true := bne_iff_ne.mpr c15
                       by_cases c31 : (rdOf ByteArray.empty x4_1 x7_3).toList = t440.toList
                       · rw [if_pos c31] at H
                         have c31b0 : ((rdOf ByteArray.empty x4_1 x7_3).toList == t440.toList) = true := beq_iff_eq.mpr c31
                         have c31b1 : ((rdOf ByteArray.empty x4_1 x7_3).toList != t440.toList) = false := bne_eq_false_iff_eq.mpr c31
                         clear c31
                         have H' := Aside0.mk H
                         clear H
                         obtain ⟨Ao32, co32, eo32⟩ := Kd.R_slice HO_4.out
                         subst eo32
                         have p441 : 0 ≤ (x7_3 : Int) := of_decide_eq_true (by first | (with_reducible assumption) | assumption)
                         have q441 : x7_3 < (x4_1.length : Int) := of_decide_eq_true (by first | (with_reducible assumption) | assumption)
                         obtain ⟨ad441, e441, hx441_0⟩ := Kd.at_string (Kd.R_reads' HO_4.out).2.2 x7_3 p441 q441
                         cases e441
                         replace p441 := eq_true p441
                         replace q441 := eq_true q441
                         have p459 : 0 ≤ (x7_3 : Int) := of_decide_eq_true (by first | (with_reducible assumption) | assumption)
                         have q459 : x7_3 < (x4_1.length : Int) := of_decide_eq_true (by first | (with_reducible assumption) | assumption)
                         obtain ⟨ad459, e459, hx459_0⟩ := Kd.at_string (Kd.R_reads' HO_4.out).2.2 x7_3 p459 q459
                         obtain rfl : ad441 = ad459 := (by injection e459)
                         replace p459 := eq_true p459
                         replace q459 := eq_true q459
                         go_wp2
                         go_roundg k3
                         case measure => have := HK1.out; have := HJ4.out; have := HK3.out; omega
                         case rel => exact ⟨(x4_1), (wrap64 (x5_1 + 1)), (by first | rfl | (simp; done) | (simp [*]; done)), H', ⟨by have := HK1.out; have := HJ4.out; have := HK3.out; omega⟩, ⟨by (with_reducible repeat (first | apply Kd.R_alloc | apply Kd.R_drewN | apply Kd.R_drew)); exact HO_4.out⟩, ⟨by repeat (first | (with_reducible first | exact HB.out | apply below_alloc | apply pw_below_drewN | apply below_drew1) | exact HB.out)⟩⟩
                       · as_aux_lemma =>
                         rw [if_neg c31] at H
                         have c31b0 : ((rdOf ByteArray.empty x4_1 x7_3).toList == t440.toList) = false := beq_eq_false_iff_ne.mpr c31
                         have c31b1 : ((rdOf ByteArray.empty x4_1 x7_3).toList != t440.toList) = true := bne_iff_ne.mpr c31
                         have c33b0 := eq_true (of_decide_eq_true (by first | (with_reducible assumption) | assumption) : 0 ≤ x7_3)
                         by_cases c34 : x7_3 ≤ (x4_1.length : Int)
                         · as_aux_lemma =>
                           rw [if_pos c34] at H
                           have c34b0 := eq_true c34
                           have c34b1 : decide (x7_3 ≤ (x4_1.length : Int)) = true := decide_eq_true c34
                           clear c34
                           obtain ⟨y460, hy460⟩ : ∃ y_ : List ByteArray, y_ = (x4_1.take (x7_3 : Int).toNat) := ⟨_, rfl⟩
                           replace H : ((some (([t440] : List ByteArray) : List ByteArray)).bind fun y464 => ((some (x4_1.drop (x7_3 : Int).toNat : List ByteArray)).bind fun y467 => (if y464.length + y467.length < 8796093022208 then ((some (y464 ++ y467 : List ByteArray)).bind fun y471 => (if y460.length + y471.length < 8796093022208 then (incipitlaw6_KeyChain.l0 k3 l0 (y460 ++ y471) (wrap64 (x5_1 + 1))) else (none))) else (none)))) = some r := by first | (rw [hy460]; with_reducible exact H) | (have H2_ := (Option.bind_some _ _).symm.trans H; rw [hy460]; with_reducible exact H2_) | (have H2_ := (Option.bind_some _ _).symm.trans H; with_reducible exact H2_) | with_reducible exact H | (rw [hy460]; exact H) | exact H
                           have Ny460 := Aside0.mk hy460
                           clear hy460
                           obtain ⟨y464, hy464⟩ : ∃ y_ : List ByteArray, y_ = (([t440] : List ByteArray)) := ⟨_, rfl⟩
                           replace H : ((some (x4_1.drop (x7_3 : Int).toNat : List ByteArray)).bind fun y467 => (if y464.length + y467.length < 8796093022208 then ((some (y464 ++ y467 : List ByteArray)).bind fun y471 => (if y460.length + y471.length < 8796093022208 then (incipitlaw6_KeyChain.l0 k3 l0 (y460 ++ y471) (wrap64 (x5_1 + 1))) else (none))) else (none))) = some r := by first | (rw [hy464]; with_reducible exact H) | (have H2_ := (Option.bind_some _ _).symm.trans H; rw [hy464]; with_reducible exact H2_) | (have H2_ := (Option.bind_some _ _).symm.trans H; with_reducible exact H2_) | with_reducible exact H | (rw [hy464]; exact H) | exact H
                           have Ny464 := Aside0.mk hy464
                           clear hy464
                           have c35b0 := eq_true (of_decide_eq_true (by first | (with_reducible assumption) | assumption) : 0 ≤ x7_3)
                           have c36b0 := eq_true (of_decide_eq_true (by first | (with_reducible assumption) | assumption) : x7_3 ≤ (x4_1.length : Int))
                           obtain ⟨y467, hy467⟩ : ∃ y_ : List ByteArray, y_ = (x4_1.drop (x7_3 : Int).toNat) := ⟨_, rfl⟩
                           replace H : (if y464.length + y467.length < 8796093022208 then ((some (y464 ++ y467 : List ByteArray)).bind fun y471 => (if y460.length + y471.length < 8796093022208 then (incipitlaw6_KeyChain.l0 k3 l0 (y460 ++ y471) (wrap64 (x5_1 + 1))) else (none))) else (none)) = some r := by first | (rw [hy467]; with_reducible exact H) | (have H2_ := (Option.bind_some _ _).symm.trans H; rw [hy467]; with_reducible exact H2_) | (have H2_ := (Option.bind_some _ _).symm.trans H; with_reducible exact H2_) | with_reducible exact H | (rw [hy467]; exact H) | exact H
                           have Ny467 := Aside0.mk hy467
                           clear hy467
                           by_cases c37 : y464.length + y467.length < 8796093022208
                           · as_aux_lemma =>
                             rw [if_pos c37] at H
                             have LMc37 := Aside0.mk c37
                             clear c37
                             obtain ⟨y471, hy471⟩ : ∃ y_ : List ByteArray, y_ = (y464 ++ y467) := ⟨_, rfl⟩
                             replace H : (if y460.length + y471.length < 8796093022208 then (incipitlaw6_KeyChain.l0 k3 l0 (y460 ++ y471) (wrap64 (x5_1 + 1))) else (none)) = some r := by first | (rw [hy471]; with_reducible exact H) | (have H2_ := (Option.bind_some _ _).symm.trans H; rw [hy471]; with_reducible exact H2_) | (have H2_ := (Option.bind_some _ _).symm.trans H; with_reducible exact H2_) | with_reducible exact H | (rw [hy471]; exact H) | exact H
                             have Ny471 := Aside0.mk hy471
                             clear hy471
                             by_cases c38 : y460.length + y471.length < 8796093022208
                             · as_aux_lemma =>
                               rw [if_pos c38] at H
                               have LMc38 := Aside0.mk c38
                               clear c38
                               obtain ⟨y474, hy474⟩ : ∃ y_ : List ByteArray, y_ = (y460 ++ y471) := ⟨_, rfl⟩
                               replace H : (incipitlaw6_KeyChain.l0 k3 l0 y474 (wrap64 (x5_1 + 1))) = some r := by first | (rw [hy474]; with_reducible exact H) | (have H2_ := (Option.bind_some _ _).symm.trans H; rw [hy474]; with_reducible exact H2_) | (have H2_ := (Option.bind_some _ _).symm.trans H; with_reducible exact H2_) | with_reducible exact H | (rw [hy474]; exact H) | exact H
                               have Ny474 := Aside0.mk hy474
                               clear hy474
                               have H' := Aside0.mk H
                               clear H
                               obtain ⟨Ao39, co39, eo39⟩ := Kd.R_slice HO_4.out
                               subst eo39
                               have p441 : 0 ≤ (x7_3 : Int) := of_decide_eq_true (by first | (with_reducible assumption) | assumption)
                               have q441 : x7_3 < (x4_1.length : Int) := of_decide_eq_true (by first | (with_reducible assumption) | assumption)
                               obtain ⟨ad441, e441, hx441_0⟩ := Kd.at_string (Kd.R_reads' HO_4.out).2.2 x7_3 p441 q441
                               cases e441
                               replace p441 := eq_true p441
                               replace q441 := eq_true q441
                               have p459 : 0 ≤ (x7_3 : Int) := of_decide_eq_true (by first | (with_reducible assumption) | assumption)
                               have q459 : x7_3 < (x4_1.length : Int) := of_decide_eq_true (by first | (with_reducible assumption) | assumption)
                               obtain ⟨ad459, e459, hx459_0⟩ := Kd.at_string (Kd.R_reads' HO_4.out).2.2 x7_3 p459 q459
                               obtain rfl : ad441 = ad459 := (by injection e459)
                               replace p459 := eq_true p459
                               replace q459 := eq_true q459
                               try go_wp2
                               have n0_ := Aside0.mk (Kd.R_drew HO_4.out)
                               have n1_ := Aside0.mk (below_drew1 HB.out)
                               clear HO_4
                               clear HB
                               have HO_4 := n0_
                               have HB := n1_
                               clear n0_ n1_
                               have q41 : (x7_3 : Int) ≤ ((x4_1.length : Int) : Int) := of_decide_eq_true (by first | (with_reducible assumption) | assumption)
                               obtain ⟨i041, hi041, _, hsz41, _⟩ := info_parts info9
                               have hroom41 : x4_1.length ≤ co39 := (Kd.R_reads' HO_4.out).2.1
                               have hC41 : Kd.C Kd.string _ (some ad441) x4_1.length x4_1 := (Kd.R_reads' HO_4.out).2.2
                               have hcut41 := cut_cap (P := Try.prog) 22 9 .i64 Try.underlying22 hi041 (some ad441) x4_1.length co39 x7_3 (of_decide_eq_true (by first | (with_reducible assumption) | assumption)) q41 hroom41
                               have hr41 := Kd.C_take (m := (x7_3 : Int).toNat) hC41 (by omega)
                               have hy41 : y460.length = (x7_3 : Int).toNat := (by rw [Ny460.out, List.length_take]; omega)
                               rw [← Ny460.out] at hr41
                               rw [← hy41] at hcut41
                               have HR463 := Aside0.mk hr41
                               have HC463 := Aside0.mk (show y460.length ≤ y460.length from by omega)
                               clear hr41 hC41 hroom41 hi041 hsz41
                               have KY41 := Aside0.mk hy41
                               clear hy41
                               have KL41 := Aside0.mk (show (x7_3 : Int).toNat ≤ x4_1.length from by omega)
                               replace q41 := eq_true q41
                               have q42 : (x7_3 : Int) ≤ ((x4_1.length : Int) : Int) := of_decide_eq_true (by first | (with_reducible assumption) | assumption)
                               obtain ⟨i042, hi042, _, hsz42, _⟩ := info_parts info9
                               have hroom42 : x4_1.length ≤ co39 := (Kd.R_reads' HO_4.out).2.1
                               have hC42 : Kd.C Kd.string _ (some ad441) x4_1.length x4_1 := (Kd.R_reads' HO_4.out).2.2
                               have q042 : (0 : Int) ≤ (x7_3 : Int) := of_decide_eq_true (by first | (with_reducible assumption) | assumption)
                               have hcut42 := cut_from (P := Try.prog) 22 9 .i64 Try.underlying22 hi042 1 hsz42 (some ad441) x4_1.length co39 x7_3 q042 q42
                               have hr42 := Kd.C_drop (m := (x7_3 : Int).toNat) (c := co39) hC42 (by omega) hroom42
                               obtain ⟨A42, hA42⟩ : ∃ A1, A1 = (if co39 = (x7_3 : Int).toNat then (some ad441) else ((some ad441) : Option Addr).map (·.add ((x7_3 : Int).toNat * 1))) := ⟨_, rfl⟩
                               obtain ⟨c42, hc42⟩ : ∃ c1, c1 = co39 - (x7_3 : Int).toNat := ⟨_, rfl⟩
                               have hy42 : y467.length = x4_1.length - (x7_3 : Int).toNat := (by rw [Ny467.out, List.length_drop] <;> omega)
                               rw [show (x4_1).drop (x7_3 : Int).toNat = y467 from Ny467.out.symm] at hr42
                               replace hr42 : Kd.C Kd.string _ A42 y467.length y467 := (by rw [hA42]; exact hr42)
                               rw [← hy42, ← hA42, ← hc42] at hcut42
                               have HR470 := Aside0.mk hr42
                               have HC470 := Aside0.mk (show y467.length ≤ c42 from by rw [hy42, hc42]; exact Nat.sub_le_sub_right hroom42 _)
                               clear hr42 hC42 hroom42 hi042 hsz42 hc42
                               have KY42 := Aside0.mk hy42
                               have KA42 := Aside0.mk hA42
                               clear hy42 hA42
                               have KL42 := Aside0.mk (show (x7_3 : Int).toNat ≤ x4_1.length from by omega)
                               replace q42 := eq_true q42
                               refine start_ (n := 12) (S := fun w' => True) (ds := []) #[false, false, false, false, false, false, false, false, false, false, false, false] (by kernel_rfl) rfl rfl trivial (fun hHeld => ?_); refine with_tabW incipitlaw6_KeyChain.tab13 incipitlaw6_KeyChain.bits13 (fun HT_ HW_ => ?_)
                               generalize wr.drew = w40 at HO_4 HB HR463 HR470 hHeld ⊢
                               refine pure_ (i := 0) (N := some 54) (v := ?_) (a' := ?_) #[true, false, false, false, false, false, false, false, false, false, false, false] rfl rfl (any_of HT_.out (by kernel_rfl)) (fun _ _ _ h => h) (Or.inl ⟨by rfl, ?_⟩) ?_ ?_
                               rotate_left
                               · intro w'
                                 go_simp
                                 with_reducible rfl
                               rotate_left
                               · simp only [Act.put, List.setIfInBounds_toArray, List.set_cons_zero, List.set_cons_succ, i64_w, i32_w]
                                 rfl
                               refine pure_ (i := 1) (N := some 55) (v := ?_) (a' := ?_) #[true, true, false, false, false, false, false, false, false, false, false, false] rfl rfl (any_of HT_.out (by kernel_rfl)) (fun _ _ _ h => h) (Or.inl ⟨by rfl, ?_⟩) ?_ ?_
                               rotate_left
                               · intro w'
                                 go_simp
                                 with_reducible rfl
                               rotate_left
                               · simp only [Act.put, List.setIfInBounds_toArray, List.set_cons_zero, List.set_cons_succ, i64_w, i32_w]
                                 rfl
                               refine pure_ (i := 2) (N := some 56) (v := ?_) (a' := ?_) #[true, true, true, false, false, false, false, false, false, false, false, false] rfl rfl (any_of HT_.out (by kernel_rfl)) (fun _ _ _ h => h) (Or.inl ⟨by rfl, ?_⟩) ?_ ?_
                               rotate_left
                               · intro w'
                                 go_simp
                                 with_reducible rfl
                               rotate_left
                               · simp only [Act.put, List.setIfInBounds_toArray, List.set_cons_zero, List.set_cons_succ, i64_w, i32_w]
                                 rfl
                               refine pure_ (i := 3) (N := some 57) (v := ?_) (a' := ?_) #[true, true, true, true, false, false, false, false, false, false, false, false] rfl rfl (any_of HT_.out (by kernel_rfl)) (fun _ _ _ h => h) (Or.inl ⟨by rfl, ?_⟩) ?_ ?_
                               rotate_left
                               · intro w'
                                 go_simp
                                 with_reducible rfl
                               rotate_left
                               · simp only [Act.put, List.setIfInBounds_toArray, List.set_cons_zero, List.set_cons_succ, i64_w, i32_w]
                                 rfl
                               refine pure_ (i := 4) (N := some 58) (v := ?_) (a' := ?_) #[true, true, true, true, true, false, false, false, false, false, false, false] rfl rfl (any_of HT_.out (by kernel_rfl)) (fun _ _ _ h => h) (Or.inl ⟨by rfl, ?_⟩) ?_ ?_
                               rotate_left
                               · intro w'
                                 go_simp
                                 with_reducible rfl
                               rotate_left
                               · simp only [Act.put, List.setIfInBounds_toArray, List.set_cons_zero, List.set_cons_succ, i64_w, i32_w]
                                 rfl
                               refine pure_ (i := 6) (N := some 60) (v := ?_) (a' := ?_) #[true, true, true, true, true, false, true, false, false, false, false, false] rfl rfl (any_of HT_.out (by kernel_rfl)) (fun _ _ _ h => h) (Or.inl ⟨by rfl, ?_⟩) ?_ ?_
                               rotate_left
                               · intro w'
                                 go_simp
                                 with_reducible rfl
                               rotate_left
                               · simp only [Act.put, List.setIfInBounds_toArray, List.set_cons_zero, List.set_cons_succ, i64_w, i32_w]
                                 rfl
                               refine pure_ (i := 7) (N := some 61) (v := ?_) (a' := ?_) #[true, true, true, true, true, false, true, true, false, false, false, false] rfl rfl (any_of HT_.out (by kernel_rfl)) (fun _ _ _ h => h) (Or.inl ⟨by rfl, ?_⟩) ?_ ?_
                               rotate_left
                               · intro w'
                                 go_simp
                                 with_reducible rfl
                               rotate_left
                               · simp only [Act.put, List.setIfInBounds_toArray, List.set_cons_zero, List.set_cons_succ, i64_w, i32_w]
                                 rfl
                               refine pure_ (i := 8) (N := some 62) (v := ?_) (a' := ?_) #[true, true, true, true, true, false, true, true, true, false, false, false] rfl rfl (any_of HT_.out (by kernel_rfl)) (fun _ _ _ h => h) (Or.inl ⟨by rfl, ?_⟩) ?_ ?_
                               rotate_left
                               · intro w'
                                 go_simp
                                 with_reducible rfl
                               rotate_left
                               · simp only [Act.put, List.setIfInBounds_toArray, List.set_cons_zero, List.set_cons_succ, i64_w, i32_w]
                                 rfl
                               refine one_ (i := 5) (N := some 59) #[true, true, true, true, true, true, true, true, true, false, false, false] rfl rfl (one_of HT_.out (by kernel_rfl)) (by decide) (fun K hK => ?_)
                               refine Kd.R_lit_step Kd.string _ 9 ?hg (N := 59) ?hd (xs := ([t440] : List ByteArray)) (inner := [.string t440]) (ok := fun _ => True) (okp := fun _ => True) ?hr ?hp (fun _ hk => hk) trivial (Below.refl _ _) (Nat.le_refl _) (by simp) ?_; (case hd => rfl); (case hg => rfl); (case hr => first | (go_simp; done) | (go_simp; rfl)); (case hp => exact (Reps.one (show Kd.M Kd.string _ _ _ t440 [.string t440] from rfl) (Reps.none _ _)))
                               intro v465 w43 ho44 hb hg_ hnew_
                               clear hg_ hnew_
                               (first | rw [← Ny464.out] at ho44 | (simp only [Int.reduceToNat] at ho44; rw [← Ny464.out] at ho44))
                               have n0_ := Aside0.mk (Kd.R_elder' (by (with_reducible repeat (first | apply Kd.R_alloc | apply Kd.R_drewN | apply Kd.R_drew)); exact HO_4.out) (Kd.R_base ho44) hb)
                               have n1_ := Aside0.mk (Kd.R_lower (Kd.R_new' ho44 (Kd.R_lt (by (with_reducible repeat (first | apply Kd.R_alloc | apply Kd.R_drewN | apply Kd.R_drew)); exact HO_4.out))) (below_size (by repeat (first | (with_reducible first | exact HB.out | apply below_alloc | apply pw_below_drewN | apply below_drew1) | exact HB.out))))
                               have n2_ := Aside0.mk (Kd.C_below (by repeat (first | (with_reducible exact HR463.out) | (with_reducible refine Kd.C_alloc ?_ _) | (with_reducible refine Kd.C_drewN ?_ _) | (with_reducible refine Kd.C_drew ?_) | exact HR463.out)) hb)
                               have n3_ := Aside0.mk (Kd.C_below (by repeat (first | (with_reducible exact HR470.out) | (with_reducible refine Kd.C_alloc ?_ _) | (with_reducible refine Kd.C_drewN ?_ _) | (with_reducible refine Kd.C_drew ?_) | exact HR470.out)) hb)
                               have n4_ := Aside0.mk (below_step (by repeat (first | (with_reducible first | exact HB.out | apply below_alloc | apply pw_below_drewN | apply below_drew1) | exact HB.out)) hb)
                               clear HO_4
                               clear HR463
                               clear HR470
                               clear HB
                               have HO_4 := n0_
                               have HO466 := n1_
                               have HR463 := n2_
                               have HR470 := n3_
                               have HB := n4_
                               clear n0_ n1_ n2_ n3_ n4_
                               clear hb ho44
                               refine hK.out _ _ trivial (fun hHeld => ?_)
                               clear hK K
                               refine norm_ (a' := ?_) ?_ ?_
                               rotate_left
                               · show Act.put _ (some 59) _ = _
                                 simp only [Act.put, List.setIfInBounds_toArray, List.set_cons_zero, List.set_cons_succ, i64_w, i32_w]
                                 rfl
                               refine one_ (i := 9) (N := some 63) #[true, true, true, true, true, true, true, true, true, true, false, false] rfl rfl (one_of HT_.out (by kernel_rfl)) (by decide) (fun K hK => ?_)
                               refine Kd.R_append_rows_step Kd.string (w0 := w) w.heap.size (by rfl) (.tmp 59) (.tmp 62) 22 9 (.string ⟨#[]⟩) 16 rfl Try.underlying22 info9 rfl (by decide) (by omega) v465 y464 y467 _ _ _ (fun k_ => some k_ ≠ (.slice (some ad441) x4_1.length co39 : Value).ownBlock) (fun _ => False) rfl rfl ?aO ?aR (fun _ _ h => h) (fun _ h => h.elim) ?aF ?aB ?aS ?aL ?_
                               (case aR => repeat (first | exact (by repeat (first | (with_reducible exact HR470.out) | (with_reducible refine Kd.C_alloc ?_ _) | (with_reducible refine Kd.C_drewN ?_ _) | (with_reducible refine Kd.C_drew ?_) | exact HR470.out)) | (with_reducible refine Kd.C_alloc ?_ _) | (with_reducible refine Kd.C_drewN ?_ _) | (with_reducible refine Kd.C_drew ?_)))
                               (case aB => exact (by repeat (first | (with_reducible first | exact HB.out | apply below_alloc | apply pw_below_drewN | apply below_drew1) | exact HB.out)))
                               (case aF => exact (fun k_ hk => Kd.fresh' (Kd.R_lt (by (with_reducible repeat (first | apply Kd.R_alloc | apply Kd.R_drewN | apply Kd.R_drew)); exact HO_4.out)) k_ hk))
                               (case aO => exact (by (with_reducible repeat (first | apply Kd.R_alloc | apply Kd.R_drewN | apply Kd.R_drew)); exact Kd.R_mono HO466.out (fun _ hk => hk.2)))
                               (case aS => exact (below_size (by repeat (first | (with_reducible first | exact HB.out | apply below_alloc | apply pw_below_drewN | apply below_drew1) | exact HB.out))))
                               (case aL => have := LMc37.out; omega)
                               intro v472 w45 ho hb hg hat
                               rw [← Ny471.out] at ho
                               have n0_ := Aside0.mk (Kd.R_after (ok := (fun _ => True)) (by (with_reducible repeat (first | apply Kd.R_alloc | apply Kd.R_drewN | apply Kd.R_drew)); exact HO_4.out) hg hat)
                               have n1_ := Aside0.mk (hb)
                               have n2_ := Aside0.mk ((show Kd.C Kd.string w45 (some ad441) y460.length y460 from by rw [Ny460.out]; exact Kd.C_take (m := (x7_3 : Int).toNat) ((Kd.R_reads' (Kd.R_after (ok := (fun _ => True)) (by (with_reducible repeat (first | apply Kd.R_alloc | apply Kd.R_drewN | apply Kd.R_drew)); exact HO_4.out) hg hat)).2.2) KL41.out))
                               have n3_ := Aside0.mk ((show Kd.C Kd.string w45 A42 y467.length y467 from by rw [Ny467.out, KA42.out]; exact Kd.C_drop (m := (x7_3 : Int).toNat) (c := co39) ((Kd.R_reads' (Kd.R_after (ok := (fun _ => True)) (by (with_reducible repeat (first | apply Kd.R_alloc | apply Kd.R_drewN | apply Kd.R_drew)); exact HO_4.out) hg hat)).2.2) KL42.out ((Kd.R_reads' (Kd.R_after (ok := (fun _ => True)) (by (with_reducible repeat (first | apply Kd.R_alloc | apply Kd.R_drewN | apply Kd.R_drew)); exact HO_4.out) hg hat)).2.1)))
                               have n4_ := Aside0.mk (ho)
                               clear HO_4
                               clear HB
                               clear HR463
                               clear HR470
                               clear HO466
                               have HO_4 := n0_
                               have HB := n1_
                               have HR463 := n2_
                               have HR470 := n3_
                               have HO473 := n4_
                               clear n0_ n1_ n2_ n3_ n4_
                               clear ho hb hg hat
                               obtain ⟨Ao47, co47, eo47⟩ := Kd.R_slice HO473.out
                               (first | subst eo47 | (injection eo47 with f1_ f2_ f3_; have f4_ := f1_.symm; have f5_ := f3_.symm; clear f1_ f2_ f3_; subst f4_; subst f5_))
                               refine hK.out _ _ trivial (fun hHeld => ?_)
                               clear hK K
                               refine norm_ (a' := ?_) ?_ ?_
                               rotate_left
                               · show Act.put _ (some 63) _ = _
                                 simp only [Act.put, List.setIfInBounds_toArray, List.set_cons_zero, List.set_cons_succ, i64_w, i32_w]
                                 rfl
                               refine one_ (i := 10) (N := some 64) #[true, true, true, true, true, true, true, true, true, true, true, false] rfl rfl (one_of HT_.out (by kernel_rfl)) (by decide) (fun K hK => ?_)
                               refine S_append_full_step (w0 := w) w.heap.size (by rfl) (.tmp 57) (.tmp 63) 22 9 (.string ⟨#[]⟩) 16 rfl Try.underlying22 info9 rfl (by omega) (some ad441) y460.length y460 y471 _ _ _ (fun k_ => some k_ ≠ (.slice (some ad441) x4_1.length co39 : Value).ownBlock ∧ some k_ ≠ (.slice Ao47 y471.length co47 : Value).ownBlock) rfl rfl ?aO ?aR ?aY ?aF ?aB ?aS ?aL ?_
                               (case aR => repeat (first | exact (Kd.R_reads' HO473.out).2.2 | (with_reducible refine Kd.C_alloc ?_ _) | (with_reducible refine Kd.C_drewN ?_ _) | (with_reducible refine Kd.C_drew ?_)))
                               (case aY => (have hq_ : 0 < y464.length := (by rw [Ny464.out]; simp); rw [Ny471.out, List.length_append]; omega))
                               (case aB => exact (by repeat (first | (with_reducible first | exact HB.out | apply below_alloc | apply pw_below_drewN | apply below_drew1) | exact HB.out)))
                               (case aF => exact (fun k_ hk => ⟨Kd.fresh' (Kd.R_lt (by (with_reducible repeat (first | apply Kd.R_alloc | apply Kd.R_drewN | apply Kd.R_drew)); exact HO_4.out)) k_ hk, Kd.fresh' (Kd.R_lt (by (with_reducible repeat (first | apply Kd.R_alloc | apply Kd.R_drewN | apply Kd.R_drew)); exact HO473.out)) k_ hk⟩))
                               (case aO => exact (by repeat (first | (with_reducible exact HR463.out) | (with_reducible refine Kd.C_alloc ?_ _) | (with_reducible refine Kd.C_drewN ?_ _) | (with_reducible refine Kd.C_drew ?_) | exact HR463.out)))
                               (case aS => exact (below_size (by repeat (first | (with_reducible first | exact HB.out | apply below_alloc | apply pw_below_drewN | apply below_drew1) | exact HB.out))))
                               (case aL => have := LMc38.out; omega)
                               intro v475 w46 ho hb hg hat
                               rw [← Ny474.out] at ho
                               have n0_ := Aside0.mk (Kd.R_after (Kd.R_apart_nil (by (with_reducible repeat (first | apply Kd.R_alloc | apply Kd.R_drewN | apply Kd.R_drew)); exact HO_4.out)) hg hat)
                               have n1_ := Aside0.mk (Kd.R_after (Kd.R_apart_nil (by (with_reducible repeat (first | apply Kd.R_alloc | apply Kd.R_drewN | apply Kd.R_drew)); exact HO473.out)) hg hat)
                               have n2_ := Aside0.mk (hb)
                               have n3_ := Aside0.mk ((show Kd.C Kd.string w46 (some ad441) y460.length y460 from by rw [Ny460.out]; exact Kd.C_take (m := (x7_3 : Int).toNat) ((Kd.R_reads' (Kd.R_after (Kd.R_apart_nil (by (with_reducible repeat (first | apply Kd.R_alloc | apply Kd.R_drewN | apply Kd.R_drew)); exact HO_4.out)) hg hat)).2.2) KL41.out))
                               have n4_ := Aside0.mk ((show Kd.C Kd.string w46 A42 y467.length y467 from by rw [Ny467.out, KA42.out]; exact Kd.C_drop (m := (x7_3 : Int).toNat) (c := co39) ((Kd.R_reads' (Kd.R_after (Kd.R_apart_nil (by (with_reducible repeat (first | apply Kd.R_alloc | apply Kd.R_drewN | apply Kd.R_drew)); exact HO_4.out)) hg hat)).2.2) KL42.out ((Kd.R_reads' (Kd.R_after (Kd.R_apart_nil (by (with_reducible repeat (first | apply Kd.R_alloc | apply Kd.R_drewN | apply Kd.R_drew)); exact HO_4.out)) hg hat)).2.1)))
                               have n5_ := Aside0.mk (ho)
                               clear HO_4
                               clear HO473
                               clear HB
                               clear HR463
                               clear HR470
                               have HO_4 := n0_
                               have HO473 := n1_
                               have HB := n2_
                               have HR463 := n3_
                               have HR470 := n4_
                               have HO476 := n5_
                               clear n0_ n1_ n2_ n3_ n4_ n5_
                               clear ho hb hg hat
                               refine hK.out _ _ trivial (fun hHeld => ?_)
                               clear hK K
                               refine norm_ (a' := ?_) ?_ ?_
                               rotate_left
                               · show Act.put _ (some 64) _ = _
                                 simp only [Act.put, List.setIfInBounds_toArray, List.set_cons_zero, List.set_cons_succ, i64_w, i32_w]
                                 rfl
                               refine pure_ (i := 11) (N := some 4) (v := ?_) (a' := ?_) #[true, true, true, true, true, true, true, true, true, true, true, true] rfl rfl (any_of HT_.out (by kernel_rfl)) (fun _ _ _ h => h) (Or.inl ⟨by rfl, ?_⟩) ?_ ?_
                               rotate_left
                               · intro w'
                                 go_simp
                                 with_reducible rfl
                               rotate_left
                               · simp only [Act.put, List.setIfInBounds_toArray, List.set_cons_zero, List.set_cons_succ, i64_w, i32_w]
                                 rfl
                               refine done_ (done_of HT_.out (by kernel_rfl)) ?_
                               try go_wp2
                               go_roundg k3
                               case measure => have := HK1.out; have := HJ4.out; have := HK3.out; omega
                               case rel => exact ⟨(y474), (wrap64 (x5_1 + 1)), (by first | rfl | (simp; done) | (simp [*]; done)), H', ⟨by have := HK1.out; have := HJ4.out; have := HK3.out; omega⟩, ⟨by (with_reducible repeat (first | apply Kd.R_alloc | apply Kd.R_drewN | apply Kd.R_drew)); exact Kd.R_mono HO476.out (fun _ hk => trivial)⟩, ⟨by repeat (first | (with_reducible first | exact HB.out | apply below_alloc | apply pw_below_drewN | apply below_drew1) | exact HB.out)⟩⟩
                             · rw [if_neg c38] at H
                               exact absurd H (by simp)
                           · rw [if_neg c37] at H
                             exact absurd H (by simp)
                         · rw [if_neg c34] at H
                           exact absurd H (by simp)
                 · rw [if_neg c12] at H
                   exact absurd H (by simp)
               · as_aux_lemma =>
                 rw [if_neg c11] at H
                 have c11b0 : decide (x7_3 < (x4_1.length : Int)) = false := decide_eq_false c11
                 clear c11
                 by_cases c48 : x7_3 = (x4_1.length : Int)
                 · as_aux_lemma =>
                   rw [if_pos c48] at H
                   have c48b0 : (x7_3 == (x4_1.length : Int)) = true := beq_iff_eq.mpr c48
                   have c48b1 : (x7_3 != (x4_1.length : Int)) = false := bne_eq_false_iff_eq.mpr c48
                   clear c48
                   by_cases c49 : 0 ≤ x7_3
                   · as_aux_lemma =>
                     rw [if_pos c49] at H
                     have c49b0 := eq_true c49
                     have c49b1 : decide (0 ≤ x7_3) = true := decide_eq_true c49
                     clear c49
                     by_cases c50 : x7_3 ≤ (x4_1.length : Int)
                     · as_aux_lemma =>
                       rw [if_pos c50] at H
                       have c50b0 := eq_true c50
                       have c50b1 : decide (x7_3 ≤ (x4_1.length : Int)) = true := decide_eq_true c50
                       clear c50
                       obtain ⟨y477, hy477⟩ : ∃ y_ : List ByteArray, y_ = (x4_1.take (x7_3 : Int).toNat) := ⟨_, rfl⟩
                       replace H : ((some (([t440] : List ByteArray) : List ByteArray)).bind fun y481 => ((some (x4_1.drop (x7_3 : Int).toNat : List ByteArray)).bind fun y484 => (if y481.length + y484.length < 8796093022208 then ((some (y481 ++ y484 : List ByteArray)).bind fun y488 => (if y477.length + y488.length < 8796093022208 then (incipitlaw6_KeyChain.l0 k3 l0 (y477 ++ y488) (wrap64 (x5_1 + 1))) else (none))) else (none)))) = some r := by first | (rw [hy477]; with_reducible exact H) | (have H2_ := (Option.bind_some _ _).symm.trans H; rw [hy477]; with_reducible exact H2_) | (have H2_ := (Option.bind_some _ _).symm.trans H; with_reducible exact H2_) | with_reducible exact H | (rw [hy477]; exact H) | exact H
                       have Ny477 := Aside0.mk hy477
                       clear hy477
                       obtain ⟨y481, hy481⟩ : ∃ y_ : List ByteArray, y_ = (([t440] : List ByteArray)) := ⟨_, rfl⟩
                       replace H : ((some (x4_1.drop (x7_3 : Int).toNat : List ByteArray)).bind fun y484 => (if y481.length + y484.length < 8796093022208 then ((some (y481 ++ y484 : List ByteArray)).bind fun y488 => (if y477.length + y488.length < 8796093022208 then (incipitlaw6_KeyChain.l0 k3 l0 (y477 ++ y488) (wrap64 (x5_1 + 1))) else (none))) else (none))) = some r := by first | (rw [hy481]; with_reducible exact H) | (have H2_ := (Option.bind_some _ _).symm.trans H; rw [hy481]; with_reducible exact H2_) | (have H2_ := (Option.bind_some _ _).symm.trans H; with_reducible exact H2_) | with_reducible exact H | (rw [hy481]; exact H) | exact H
                       have Ny481 := Aside0.mk hy481
                       clear hy481
                       have c51b0 := eq_true (of_decide_eq_true (by first | (with_reducible assumption) | assumption) : 0 ≤ x7_3)
                       have c52b0 := eq_true (of_decide_eq_true (by first | (with_reducible assumption) | assumption) : x7_3 ≤ (x4_1.length : Int))
                       obtain ⟨y484, hy484⟩ : ∃ y_ : List ByteArray, y_ = (x4_1.drop (x7_3 : Int).toNat) := ⟨_, rfl⟩
                       replace H : (if y481.length + y484.length < 8796093022208 then ((some (y481 ++ y484 : List ByteArray)).bind fun y488 => (if y477.length + y488.length < 8796093022208 then (incipitlaw6_KeyChain.l0 k3 l0 (y477 ++ y488) (wrap64 (x5_1 + 1))) else (none))) else (none)) = some r := by first | (rw [hy484]; with_reducible exact H) | (have H2_ := (Option.bind_some _ _).symm.trans H; rw [hy484]; with_reducible exact H2_) | (have H2_ := (Option.bind_some _ _).symm.trans H; with_reducible exact H2_) | with_reducible exact H | (rw [hy484]; exact H) | exact H
                       have Ny484 := Aside0.mk hy484
                       clear hy484
                       by_cases c53 : y481.length + y484.length < 8796093022208
                       · as_aux_lemma =>
                         rw [if_pos c53] at H
                         have LMc53 := Aside0.mk c53
                         clear c53
                         obtain ⟨y488, hy488⟩ : ∃ y_ : List ByteArray, y_ = (y481 ++ y484) := ⟨_, rfl⟩
                         replace H : (if y477.length + y488.length < 8796093022208 then (incipitlaw6_KeyChain.l0 k3 l0 (y477 ++ y488) (wrap64 (x5_1 + 1))) else (none)) = some r := by first | (rw [hy488]; with_reducible exact H) | (have H2_ := (Option.bind_some _ _).symm.trans H; rw [hy488]; with_reducible exact H2_) | (have H2_ := (Option.bind_some _ _).symm.trans H; with_reducible exact H2_) | with_reducible exact H | (rw [hy488]; exact H) | exact H
                         have Ny488 := Aside0.mk hy488
                         clear hy488
                         by_cases c54 : y477.length + y488.length < 8796093022208
                         · as_aux_lemma =>
                           rw [if_pos c54] at H
                           have LMc54 := Aside0.mk c54
                           clear c54
                           obtain ⟨y491, hy491⟩ : ∃ y_ : List ByteArray, y_ = (y477 ++ y488) := ⟨_, rfl⟩
                           replace H : (incipitlaw6_KeyChain.l0 k3 l0 y491 (wrap64 (x5_1 + 1))) = some r := by first | (rw [hy491]; with_reducible exact H) | (have H2_ := (Option.bind_some _ _).symm.trans H; rw [hy491]; with_reducible exact H2_) | (have H2_ := (Option.bind_some _ _).symm.trans H; with_reducible exact H2_) | with_reducible exact H | (rw [hy491]; exact H) | exact H
                           have Ny491 := Aside0.mk hy491
                           clear hy491
                           have H' := Aside0.mk H
                           clear H
                           obtain ⟨Ao55, co55, eo55⟩ := Kd.R_slice HO_4.out
                           subst eo55
                           try go_wp2
                           have n0_ := Aside0.mk (Kd.R_drew HO_4.out)
                           have n1_ := Aside0.mk (below_drew1 HB.out)
                           clear HO_4
                           clear HB
                           have HO_4 := n0_
                           have HB := n1_
                           clear n0_ n1_
                           have q57 : (x7_3 : Int) ≤ ((x4_1.length : Int) : Int) := of_decide_eq_true (by first | (with_reducible assumption) | assumption)
                           obtain ⟨i057, hi057, _, hsz57, _⟩ := info_parts info9
                           have hroom57 : x4_1.length ≤ co55 := (Kd.R_reads' HO_4.out).2.1
                           have hC57 : Kd.C Kd.string _ Ao55 x4_1.length x4_1 := (Kd.R_reads' HO_4.out).2.2
                           have hcut57 := cut_cap (P := Try.prog) 22 9 .i64 Try.underlying22 hi057 Ao55 x4_1.length co55 x7_3 (of_decide_eq_true (by first | (with_reducible assumption) | assumption)) q57 hroom57
                           have hr57 := Kd.C_take (m := (x7_3 : Int).toNat) hC57 (by omega)
                           have hy57 : y477.length = (x7_3 : Int).toNat := (by rw [Ny477.out, List.length_take]; omega)
                           rw [← Ny477.out] at hr57
                           rw [← hy57] at hcut57
                           have HR480 := Aside0.mk hr57
                           have HC480 := Aside0.mk (show y477.length ≤ y477.length from by omega)
                           clear hr57 hC57 hroom57 hi057 hsz57
                           have KY57 := Aside0.mk hy57
                           clear hy57
                           have KL57 := Aside0.mk (show (x7_3 : Int).toNat ≤ x4_1.length from by omega)
                           replace q57 := eq_true q57
                           have q58 : (x7_3 : Int) ≤ ((x4_1.length : Int) : Int) := of_decide_eq_true (by first | (with_reducible assumption) | assumption)
                           obtain ⟨i058, hi058, _, hsz58, _⟩ := info_parts info9
                           have hroom58 : x4_1.length ≤ co55 := (Kd.R_reads' HO_4.out).2.1
                           have hC58 : Kd.C Kd.string _ Ao55 x4_1.length x4_1 := (Kd.R_reads' HO_4.out).2.2
                           have q058 : (0 : Int) ≤ (x7_3 : Int) := of_decide_eq_true (by first | (with_reducible assumption) | assumption)
                           have hcut58 := cut_from (P := Try.prog) 22 9 .i64 Try.underlying22 hi058 1 hsz58 Ao55 x4_1.length co55 x7_3 q058 q58
                           have hr58 := Kd.C_drop (m := (x7_3 : Int).toNat) (c := co55) hC58 (by omega) hroom58
                           obtain ⟨A58, hA58⟩ : ∃ A1, A1 = (if co55 = (x7_3 : Int).toNat then Ao55 else (Ao55 : Option Addr).map (·.add ((x7_3 : Int).toNat * 1))) := ⟨_, rfl⟩
                           obtain ⟨c58, hc58⟩ : ∃ c1, c1 = co55 - (x7_3 : Int).toNat := ⟨_, rfl⟩
                           have hy58 : y484.length = x4_1.length - (x7_3 : Int).toNat := (by rw [Ny484.out, List.length_drop] <;> omega)
                           rw [show (x4_1).drop (x7_3 : Int).toNat = y484 from Ny484.out.symm] at hr58
                           replace hr58 : Kd.C Kd.string _ A58 y484.length y484 := (by rw [hA58]; exact hr58)
                           rw [← hy58, ← hA58, ← hc58] at hcut58
                           have HR487 := Aside0.mk hr58
                           have HC487 := Aside0.mk (show y484.length ≤ c58 from by rw [hy58, hc58]; exact Nat.sub_le_sub_right hroom58 _)
                           clear hr58 hC58 hroom58 hi058 hsz58 hc58
                           have KY58 := Aside0.mk hy58
                           have KA58 := Aside0.mk hA58
                           clear hy58 hA58
                           have KL58 := Aside0.mk (show (x7_3 : Int).toNat ≤ x4_1.length from by omega)
                           replace q58 := eq_true q58
                           refine start_ (n := 12) (S := fun w' => True) (ds := []) #[false, false, false, false, false, false, false, false, false, false, false, false] (by kernel_rfl) rfl rfl trivial (fun hHeld => ?_); refine with_tabW incipitlaw6_KeyChain.tab13 incipitlaw6_KeyChain.bits13 (fun HT_ HW_ => ?_)
                           generalize wr.drew = w56 at HO_4 HB HR480 HR487 hHeld ⊢
                           refine pure_ (i := 0) (N := some 54) (v := ?_) (a' := ?_) #[true, false, false, false, false, false, false, false, false, false, false, false] rfl rfl (any_of HT_.out (by kernel_rfl)) (fun _ _ _ h => h) (Or.inl ⟨by rfl, ?_⟩) ?_ ?_
                           rotate_left
                           · intro w'
                             go_simp
                             with_reducible rfl
                           rotate_left
                           · simp only [Act.put, List.setIfInBounds_toArray, List.set_cons_zero, List.set_cons_succ, i64_w, i32_w]
                             rfl
                           refine pure_ (i := 1) (N := some 55) (v := ?_) (a' := ?_) #[true, true, false, false, false, false, false, false, false, false, false, false] rfl rfl (any_of HT_.out (by kernel_rfl)) (fun _ _ _ h => h) (Or.inl ⟨by rfl, ?_⟩) ?_ ?_
                           rotate_left
                           · intro w'
                             go_simp
                             with_reducible rfl
                           rotate_left
                           · simp only [Act.put, List.setIfInBounds_toArray, List.set_cons_zero, List.set_cons_succ, i64_w, i32_w]
                             rfl
                           refine pure_ (i := 2) (N := some 56) (v := ?_) (a' := ?_) #[true, true, true, false, false, false, false, false, false, false, false, false] rfl rfl (any_of HT_.out (by kernel_rfl)) (fun _ _ _ h => h) (Or.inl ⟨by rfl, ?_⟩) ?_ ?_
                           rotate_left
                           · intro w'
                             go_simp
                             with_reducible rfl
                           rotate_left
                           · simp only [Act.put, List.setIfInBounds_toArray, List.set_cons_zero, List.set_cons_succ, i64_w, i32_w]
                             rfl
                           refine pure_ (i := 3) (N := some 57) (v := ?_) (a' := ?_) #[true, true, true, true, false, false, false, false, false, false, false, false] rfl rfl (any_of HT_.out (by kernel_rfl)) (fun _ _ _ h => h) (Or.inl ⟨by rfl, ?_⟩) ?_ ?_
                           rotate_left
                           · intro w'
                             go_simp
                             with_reducible rfl
                           rotate_left
                           · simp only [Act.put, List.setIfInBounds_toArray, List.set_cons_zero, List.set_cons_succ, i64_w, i32_w]
                             rfl
                           refine pure_ (i := 4) (N := some 58) (v := ?_) (a' := ?_) #[true, true, true, true, true, false, false, false, false, false, false, false] rfl rfl (any_of HT_.out (by kernel_rfl)) (fun _ _ _ h => h) (Or.inl ⟨by rfl, ?_⟩) ?_ ?_
                           rotate_left
                           · intro w'
                             go_simp
                             with_reducible rfl
                           rotate_left
                           · simp only [Act.put, List.setIfInBounds_toArray, List.set_cons_zero, List.set_cons_succ, i64_w, i32_w]
                             rfl
                           refine pure_ (i := 6) (N := some 60) (v := ?_) (a' := ?_) #[true, true, true, true, true, false, true, false, false, false, false, false] rfl rfl (any_of HT_.out (by kernel_rfl)) (fun _ _ _ h => h) (Or.inl ⟨by rfl, ?_⟩) ?_ ?_
                           rotate_left
                           · intro w'
                             go_simp
                             with_reducible rfl
                           rotate_left
                           · simp only [Act.put, List.setIfInBounds_toArray, List.set_cons_zero, List.set_cons_succ, i64_w, i32_w]
                             rfl
                           refine pure_ (i := 7) (N := some 61) (v := ?_) (a' := ?_) #[true, true, true, true, true, false, true, true, false, false, false, false] rfl rfl (any_of HT_.out (by kernel_rfl)) (fun _ _ _ h => h) (Or.inl ⟨by rfl, ?_⟩) ?_ ?_
                           rotate_left
                           · intro w'
                             go_simp
                             with_reducible rfl
                           rotate_left
                           · simp only [Act.put, List.setIfInBounds_toArray, List.set_cons_zero, List.set_cons_succ, i64_w, i32_w]
                             rfl
                           refine pure_ (i := 8) (N := some 62) (v := ?_) (a' := ?_) #[true, true, true, true, true, false, true, true, true, false, false, false] rfl rfl (any_of HT_.out (by kernel_rfl)) (fun _ _ _ h => h) (Or.inl ⟨by rfl, ?_⟩) ?_ ?_
                           rotate_left
                           · intro w'
                             go_simp
                             with_reducible rfl
                           rotate_left
                           · simp only [Act.put, List.setIfInBounds_toArray, List.set_cons_zero, List.set_cons_succ, i64_w, i32_w]
                             rfl
                           refine one_ (i := 5) (N := some 59) #[true, true, true, true, true, true, true, true, true, false, false, false] rfl rfl (one_of HT_.out (by kernel_rfl)) (by decide) (fun K hK => ?_)
                           refine Kd.R_lit_step Kd.string _ 9 ?hg (N := 59) ?hd (xs := ([t440] : List ByteArray)) (inner := [.string t440]) (ok := fun _ => True) (okp := fun _ => True) ?hr ?hp (fun _ hk => hk) trivial (Below.refl _ _) (Nat.le_refl _) (by simp) ?_; (case hd => rfl); (case hg => rfl); (case hr => first | (go_simp; done) | (go_simp; rfl)); (case hp => exact (Reps.one (show Kd.M Kd.string _ _ _ t440 [.string t440] from rfl) (Reps.none _ _)))
                           intro v482 w59 ho60 hb hg_ hnew_
                           clear hg_ hnew_
                           (first | rw [← Ny481.out] at ho60 | (simp only [Int.reduceToNat] at ho60; rw [← Ny481.out] at ho60))
                           have n0_ := Aside0.mk (Kd.R_elder' (by (with_reducible repeat (first | apply Kd.R_alloc | apply Kd.R_drewN | apply Kd.R_drew)); exact HO_4.out) (Kd.R_base ho60) hb)
                           have n1_ := Aside0.mk (Kd.R_lower (Kd.R_new' ho60 (Kd.R_lt (by (with_reducible repeat (first | apply Kd.R_alloc | apply Kd.R_drewN | apply Kd.R_drew)); exact HO_4.out))) (below_size (by repeat (first | (with_reducible first | exact HB.out | apply below_alloc | apply pw_below_drewN | apply below_drew1) | exact HB.out))))
                           have n2_ := Aside0.mk (Kd.C_below (by repeat (first | (with_reducible exact HR480.out) | (with_reducible refine Kd.C_alloc ?_ _) | (with_reducible refine Kd.C_drewN ?_ _) | (with_reducible refine Kd.C_drew ?_) | exact HR480.out)) hb)
                           have n3_ := Aside0.mk (Kd.C_below (by repeat (first | (with_reducible exact HR487.out) | (with_reducible refine Kd.C_alloc ?_ _) | (with_reducible refine Kd.C_drewN ?_ _) | (with_reducible refine Kd.C_drew ?_) | exact HR487.out)) hb)
                           have n4_ := Aside0.mk (below_step (by repeat (first | (with_reducible first | exact HB.out | apply below_alloc | apply pw_below_drewN | apply below_drew1) | exact HB.out)) hb)
                           clear HO_4
                           clear HR480
                           clear HR487
                           clear HB
                           have HO_4 := n0_
                           have HO483 := n1_
                           have HR480 := n2_
                           have HR487 := n3_
                           have HB := n4_
                           clear n0_ n1_ n2_ n3_ n4_
                           clear hb ho60
                           refine hK.out _ _ trivial (fun hHeld => ?_)
                           clear hK K
                           refine norm_ (a' := ?_) ?_ ?_
                           rotate_left
                           · show Act.put _ (some 59) _ = _
                             simp only [Act.put, List.setIfInBounds_toArray, List.set_cons_zero, List.set_cons_succ, i64_w, i32_w]
                             rfl
                           refine one_ (i := 9) (N := some 63) #[true, true, true, true, true, true, true, true, true, true, false, false] rfl rfl (one_of HT_.out (by kernel_rfl)) (by decide) (fun K hK => ?_)
                           refine Kd.R_append_rows_step Kd.string (w0 := w) w.heap.size (by rfl) (.tmp 59) (.tmp 62) 22 9 (.string ⟨#[]⟩) 16 rfl Try.underlying22 info9 rfl (by decide) (by omega) v482 y481 y484 _ _ _ (fun k_ => some k_ ≠ (.slice Ao55 x4_1.length co55 : Value).ownBlock) (fun _ => False) rfl rfl ?aO ?aR (fun _ _ h => h) (fun _ h => h.elim) ?aF ?aB ?aS ?aL ?_
                           (case aR => repeat (first | exact (by repeat (first | (with_reducible exact HR487.out) | (with_reducible refine Kd.C_alloc ?_ _) | (with_reducible refine Kd.C_drewN ?_ _) | (with_reducible refine Kd.C_drew ?_) | exact HR487.out)) | (with_reducible refine Kd.C_alloc ?_ _) | (with_reducible refine Kd.C_drewN ?_ _) | (with_reducible refine Kd.C_drew ?_)))
                           (case aB => exact (by repeat (first | (with_reducible first | exact HB.out | apply below_alloc | apply pw_below_drewN | apply below_drew1) | exact HB.out)))
                           (case aF => exact (fun k_ hk => Kd.fresh' (Kd.R_lt (by (with_reducible repeat (first | apply Kd.R_alloc | apply Kd.R_drewN | apply Kd.R_drew)); exact HO_4.out)) k_ hk))
                           (case aO => exact (by (with_reducible repeat (first | apply Kd.R_alloc | apply Kd.R_drewN | apply Kd.R_drew)); exact Kd.R_mono HO483.out (fun _ hk => hk.2)))
                           (case aS => exact (below_size (by repeat (first | (with_reducible first | exact HB.out | apply below_alloc | apply pw_below_drewN | apply below_drew1) | exact HB.out))))
                           (case aL => have := LMc53.out; omega)
                           intro v489 w61 ho hb hg hat
                           rw [← Ny488.out] at ho
                           have n0_ := Aside0.mk (Kd.R_after (ok := (fun _ => True)) (by (with_reducible repeat (first | apply Kd.R_alloc | apply Kd.R_drewN | apply Kd.R_drew)); exact HO_4.out) hg hat)
                           have n1_ := Aside0.mk (hb)
                           have n2_ := Aside0.mk ((show Kd.C Kd.string w61 Ao55 y477.length y477 from by rw [Ny477.out]; exact Kd.C_take (m := (x7_3 : Int).toNat) ((Kd.R_reads' (Kd.R_after (ok := (fun _ => True)) (by (with_reducible repeat (first | apply Kd.R_alloc | apply Kd.R_drewN | apply Kd.R_drew)); exact HO_4.out) hg hat)).2.2) KL57.out))
                           have n3_ := Aside0.mk ((show Kd.C Kd.string w61 A58 y484.length y484 from by rw [Ny484.out, KA58.out]; exact Kd.C_drop (m := (x7_3 : Int).toNat) (c := co55) ((Kd.R_reads' (Kd.R_after (ok := (fun _ => True)) (by (with_reducible repeat (first | apply Kd.R_alloc | apply Kd.R_drewN | apply Kd.R_drew)); exact HO_4.out) hg hat)).2.2) KL58.out ((Kd.R_reads' (Kd.R_after (ok := (fun _ => True)) (by (with_reducible repeat (first | apply Kd.R_alloc | apply Kd.R_drewN | apply Kd.R_drew)); exact HO_4.out) hg hat)).2.1)))
                           have n4_ := Aside0.mk (ho)
                           clear HO_4
                           clear HB
                           clear HR480
                           clear HR487
                           clear HO483
                           have HO_4 := n0_
                           have HB := n1_
                           have HR480 := n2_
                           have HR487 := n3_
                           have HO490 := n4_
                           clear n0_ n1_ n2_ n3_ n4_
                           clear ho hb hg hat
                           obtain ⟨Ao63, co63, eo63⟩ := Kd.R_slice HO490.out
                           (first | subst eo63 | (injection eo63 with f1_ f2_ f3_; have f4_ := f1_.symm; have f5_ := f3_.symm; clear f1_ f2_ f3_; subst f4_; subst f5_))
                           refine hK.out _ _ trivial (fun hHeld => ?_)
                           clear hK K
                           refine norm_ (a' := ?_) ?_ ?_
                           rotate_left
                           · show Act.put _ (some 63) _ = _
                             simp only [Act.put, List.setIfInBounds_toArray, List.set_cons_zero, List.set_cons_succ, i64_w, i32_w]
                             rfl
                           refine one_ (i := 10) (N := some 64) #[true, true, true, true, true, true, true, true, true, true, true, false] rfl rfl (one_of HT_.out (by kernel_rfl)) (by decide) (fun K hK => ?_)
                           refine S_append_full_step (w0 := w) w.heap.size (by rfl) (.tmp 57) (.tmp 63) 22 9 (.string ⟨#[]⟩) 16 rfl Try.underlying22 info9 rfl (by omega) Ao55 y477.length y477 y488 _ _ _ (fun k_ => some k_ ≠ (.slice Ao55 x4_1.length co55 : Value).ownBlock ∧ some k_ ≠ (.slice Ao63 y488.length co63 : Value).ownBlock) rfl rfl ?aO ?aR ?aY ?aF ?aB ?aS ?aL ?_
                           (case aR => repeat (first | exact (Kd.R_reads' HO490.out).2.2 | (with_reducible refine Kd.C_alloc ?_ _) | (with_reducible refine Kd.C_drewN ?_ _) | (with_reducible refine Kd.C_drew ?_)))
                           (case aY => (have hq_ : 0 < y481.length := (by rw [Ny481.out]; simp); rw [Ny488.out, List.length_append]; omega))
                           (case aB => exact (by repeat (first | (with_reducible first | exact HB.out | apply below_alloc | apply pw_below_drewN | apply below_drew1) | exact HB.out)))
                           (case aF => exact (fun k_ hk => ⟨Kd.fresh' (Kd.R_lt (by (with_reducible repeat (first | apply Kd.R_alloc | apply Kd.R_drewN | apply Kd.R_drew)); exact HO_4.out)) k_ hk, Kd.fresh' (Kd.R_lt (by (with_reducible repeat (first | apply Kd.R_alloc | apply Kd.R_drewN | apply Kd.R_drew)); exact HO490.out)) k_ hk⟩))
                           (case aO => exact (by repeat (first | (with_reducible exact HR480.out) | (with_reducible refine Kd.C_alloc ?_ _) | (with_reducible refine Kd.C_drewN ?_ _) | (with_reducible refine Kd.C_drew ?_) | exact HR480.out)))
                           (case aS => exact (below_size (by repeat (first | (with_reducible first | exact HB.out | apply below_alloc | apply pw_below_drewN | apply below_drew1) | exact HB.out))))
                           (case aL => have := LMc54.out; omega)
                           intro v492 w62 ho hb hg hat
                           rw [← Ny491.out] at ho
                           have n0_ := Aside0.mk (Kd.R_after (Kd.R_apart_nil (by (with_reducible repeat (first | apply Kd.R_alloc | apply Kd.R_drewN | apply Kd.R_drew)); exact HO_4.out)) hg hat)
                           have n1_ := Aside0.mk (Kd.R_after (Kd.R_apart_nil (by (with_reducible repeat (first | apply Kd.R_alloc | apply Kd.R_drewN | apply Kd.R_drew)); exact HO490.out)) hg hat)
                           have n2_ := Aside0.mk (hb)
                           have n3_ := Aside0.mk ((show Kd.C Kd.string w62 Ao55 y477.length y477 from by rw [Ny477.out]; exact Kd.C_take (m := (x7_3 : Int).toNat) ((Kd.R_reads' (Kd.R_after (Kd.R_apart_nil (by (with_reducible repeat (first | apply Kd.R_alloc | apply Kd.R_drewN | apply Kd.R_drew)); exact HO_4.out)) hg hat)).2.2) KL57.out))
                           have n4_ := Aside0.mk ((show Kd.C Kd.string w62 A58 y484.length y484 from by rw [Ny484.out, KA58.out]; exact Kd.C_drop (m := (x7_3 : Int).toNat) (c := co55) ((Kd.R_reads' (Kd.R_after (Kd.R_apart_nil (by (with_reducible repeat (first | apply Kd.R_alloc | apply Kd.R_drewN | apply Kd.R_drew)); exact HO_4.out)) hg hat)).2.2) KL58.out ((Kd.R_reads' (Kd.R_after (Kd.R_apart_nil (by (with_reducible repeat (first | apply Kd.R_alloc | apply Kd.R_drewN | apply Kd.R_drew)); exact HO_4.out)) hg hat)).2.1)))
                           have n5_ := Aside0.mk (ho)
                           clear HO_4
                           clear HO490
                           clear HB
                           clear HR480
                           clear HR487
                           have HO_4 := n0_
                           have HO490 := n1_
                           have HB := n2_
                           have HR480 := n3_
                           have HR487 := n4_
                           have HO493 := n5_
                           clear n0_ n1_ n2_ n3_ n4_ n5_
                           clear ho hb hg hat
                           refine hK.out _ _ trivial (fun hHeld => ?_)
                           clear hK K
                           refine norm_ (a' := ?_) ?_ ?_
                           rotate_left
                           · show Act.put _ (some 64) _ = _
                             simp only [Act.put, List.setIfInBounds_toArray, List.set_cons_zero, List.set_cons_succ, i64_w, i32_w]
                             rfl
                           refine pure_ (i := 11) (N := some 4) (v := ?_) (a' := ?_) #[true, true, true, true, true, true, true, true, true, true, true, true] rfl rfl (any_of HT_.out (by kernel_rfl)) (fun _ _ _ h => h) (Or.inl ⟨by rfl, ?_⟩) ?_ ?_
                           rotate_left
                           · intro w'
                             go_simp
                             with_reducible rfl
                           rotate_left
                           · simp only [Act.put, List.setIfInBounds_toArray, List.set_cons_zero, List.set_cons_succ, i64_w, i32_w]
                             rfl
                           refine done_ (done_of HT_.out (by kernel_rfl)) ?_
                           try go_wp2
                           go_roundg k3
                           case measure => have := HK1.out; have := HJ4.out; have := HK3.out; omega
                           case rel => exact ⟨(y491), (wrap64 (x5_1 + 1)), (by first | rfl | (simp; done) | (simp [*]; done)), H', ⟨by have := HK1.out; have := HJ4.out; have := HK3.out; omega⟩, ⟨by (with_reducible repeat (first | apply Kd.R_alloc | apply Kd.R_drewN | apply Kd.R_drew)); exact Kd.R_mono HO493.out (fun _ hk => trivial)⟩, ⟨by repeat (first | (with_reducible first | exact HB.out | apply below_alloc | apply pw_below_drewN | apply below_drew1) | exact HB.out)⟩⟩
                         · rw [if_neg c54] at H
                           exact absurd H (by simp)
                       · rw [if_neg c53] at H
                         exact absurd H (by simp)
                     · rw [if_neg c50] at H
                       exact absurd H (by simp)
                   · rw [if_neg c49] at H
                     exact absurd H (by simp)
                 · rw [if_neg c48] at H
                   exact absurd H (by simp)
           · rw [if_neg c9] at H
             exact absurd H (by simp)
         · rw [if_neg c8] at H
           exact absurd H (by simp)
       · replace c7 := Bool.eq_false_iff.mpr c7
         subst c7
         have H1 : (incipitlaw6_KeyChain.l2 kj4 x4_1 1) = some r := by rw [if_neg (show ¬ (false = true) by decide)] at H; exact H
         clear H
         have H := H1
         clear H1
         have H' := Aside0.mk H
         clear H
         go_wp2
         try simp only [Act.put, List.setIfInBounds_toArray, List.set_cons_succ, List.set_cons_zero]
         go_loopg [8] kj4 (fun kq v8 w' => ∃ (x8_3 : Int), v8 = .int .i64 x8_3 ∧ Aside0 (incipitlaw6_KeyChain.l2 kq x4_1 x8_3 = some r) ∧ Aside0 (kq ≤ kj4) ∧ Aside0 (Kd.R Kd.string 9 w' w.heap.size (fun _ => True) u4 x4_1) ∧ Aside0 (Below w.heap.size w w'))
         case atStart => exact ⟨(1), (by first | rfl | (simp; done) | (simp [*]; done)), H', ⟨Nat.le_refl _⟩, ⟨by (with_reducible repeat (first | apply Kd.R_alloc | apply Kd.R_drewN | apply Kd.R_drew)); exact HO_4.out⟩, ⟨by repeat (first | (with_reducible first | exact HB.out | apply below_alloc | apply pw_below_drewN | apply below_drew1) | exact HB.out)⟩⟩
         case round =>
          clear H'
          (try clear c1); (try clear p2); (try clear c3); (try clear c4); (try clear p4); (try clear q4); (try clear hx4); (try clear c5); (try clear q5); (try clear p6); (try clear c7); (try clear c8); (try clear c9); (try clear c11); (try clear c11b0); (try clear c12); (try clear c31); (try clear c31b0); (try clear c31b1); (try clear c33); (try clear c33b0); (try clear c34); (try clear c34b0); (try clear c34b1); (try clear c35); (try clear c35b0); (try clear c36); (try clear c36b0); (try clear c37); (try clear c38); (try clear q41); (try clear c42); (try clear q42); (try clear p44); (try clear q44); (try clear hx44); (try clear p45); (try clear q45); (try clear hx45); (try clear c48); (try clear c48b0); (try clear c48b1); (try clear c49); (try clear c49b0); (try clear c49b1); (try clear c50); (try clear c50b0); (try clear c50b1); (try clear c51); (try clear c51b0); (try clear c52); (try clear c52b0); (try clear c53); (try clear c54); (try clear q57); (try clear c58); (try clear q58); (try clear hx441_0); (try clear hx459_0); (try clear p441); (try clear p459); (try clear q042); (try clear q058); (try clear q41); (try clear q42); (try clear q441); (try clear q459); (try clear q57); (try clear q58)
          obtain ⟨x8_3, rfl, HA, HK3, HO_4, HB⟩ := hrel
          cases gk with
          | zero => exact absurd HA.out (by simp [incipitlaw6_KeyChain.l2])
          | succ k3 =>
           have H := HA.out
           clear HA
           simp only [incipitlaw6_KeyChain.l2] at H
           by_cases c64 : x8_3 < (x4_1.length : Int)
           · as_aux_lemma =>
             rw [if_pos c64] at H
             have c64b0 : decide (x8_3 < (x4_1.length : Int)) = true := decide_eq_true c64
             clear c64
             obtain ⟨ji65, hji65⟩ : ∃ j_ : Int, (wrap64 (x8_3 - 1)) = j_ := ⟨_, rfl⟩
             replace H : (if 0 ≤ (ji65) then (if (ji65) < (x4_1.length : Int) then (if 0 ≤ x8_3 then ((ckey_Between.f k3 (rdOf ByteArray.empty x4_1 (ji65)) (rdOf ByteArray.empty x4_1 x8_3)).bind fun t496 => (if (Op.bytesLess t496.toList ((rdOf ByteArray.empty x4_1 (ji65)).toList)) = true then (none) else (if ((Op.bytesLess t496.toList ((rdOf ByteArray.empty x4_1 x8_3).toList)) = true) then ((incipitref1_Between.f k3 (rdOf ByteArray.empty x4_1 (ji65)) (rdOf ByteArray.empty x4_1 x8_3)).bind fun t501 => (if t496.toList = t501.toList then (incipitlaw6_KeyChain.l2 k3 x4_1 (wrap64 (x8_3 + 1))) else (none))) else (none)))) else (none)) else (none)) else (none)) = some r := by first | (rw [hji65] at H; exact H) | (simp only [hji65] at H ⊢; exact H)
             have hji65w : (IntKind.i64.wrap (x8_3 - 1)) = ji65 := (i64_w _).trans hji65
             by_cases c66 : 0 ≤ (ji65)
             · as_aux_lemma =>
               rw [if_pos c66] at H
               have c66b0 : decide (0 ≤ (ji65)) = true := decide_eq_true c66
               clear c66
               by_cases c67 : (ji65) < (x4_1.length : Int)
               · as_aux_lemma =>
                 rw [if_pos c67] at H
                 have c67b0 : decide ((ji65) < (x4_1.length : Int)) = true := decide_eq_true c67
                 clear c67
                 by_cases c68 : 0 ≤ x8_3
                 · as_aux_lemma =>
                   rw [if_pos c68] at H
                   have c68b0 : decide (0 ≤ x8_3) = true := decide_eq_true c68
                   clear c68
                   replace H := Option.bind_eq_some_iff.mp H
                   obtain ⟨t496, A690, H⟩ := H
                   replace H : (if (Op.bytesLess t496.toList ((rdOf ByteArray.empty x4_1 (ji65)).toList)) = true then (none) else (if ((Op.bytesLess t496.toList ((rdOf ByteArray.empty x4_1 x8_3).toList)) = true) then ((incipitref1_Between.f k3 (rdOf ByteArray.empty x4_1 (ji65)) (rdOf ByteArray.empty x4_1 x8_3)).bind fun t501 => (if t496.toList = t501.toList then (incipitlaw6_KeyChain.l2 k3 x4_1 (wrap64 (x8_3 + 1))) else (none))) else (none))) = some r := H
                   have A69 := Aside0.mk A690
                   clear A690
                   by_cases c70 : (Op.bytesLess t496.toList ((rdOf ByteArray.empty x4_1 (ji65)).toList)) = true
                   · rw [if_pos c70] at H
                     exact absurd H (by simp)
                   · as_aux_lemma =>
                     rw [if_neg c70] at H
                     have c70b0 : (Op.bytesLess t496.toList ((rdOf ByteArray.empty x4_1 (ji65)).toList)) = false := by simpa using c70
                     clear c70
                     by_cases c71 : ((Op.bytesLess t496.toList ((rdOf ByteArray.empty x4_1 x8_3).toList)) = true)
                     · as_aux_lemma =>
                       rw [if_pos c71] at H
                       have c71b0 : (Op.bytesLess t496.toList ((rdOf ByteArray.empty x4_1 x8_3).toList)) = true := c71
                       clear c71
                       replace H := Option.bind_eq_some_iff.mp H
                       obtain ⟨t501, A720, H⟩ := H
                       replace H : (if t496.toList = t501.toList then (incipitlaw6_KeyChain.l2 k3 x4_1 (wrap64 (x8_3 + 1))) else (none)) = some r := H
                       have A72 := Aside0.mk A720
                       clear A720
                       by_cases c73 : t496.toList = t501.toList
                       · as_aux_lemma =>
                         rw [if_pos c73] at H
                         have c73b0 : (t496.toList == t501.toList) = true := beq_iff_eq.mpr c73
                         have c73b1 : (t496.toList != t501.toList) = false := bne_eq_false_iff_eq.mpr c73
                         clear c73
                         have H' := Aside0.mk H
                         clear H
                         obtain ⟨Ao74, co74, eo74⟩ := Kd.R_slice HO_4.out
                         subst eo74
                         try go_wp2
                         have n0_ := Aside0.mk (Kd.R_drew HO_4.out)
                         have n1_ := Aside0.mk (below_drew1 HB.out)
                         clear HO_4
                         clear HB
                         have HO_4 := n0_
                         have HB := n1_
                         clear n0_ n1_
                         have p494 : 0 ≤ ((ji65) : Int) := of_decide_eq_true (by first | (with_reducible assumption) | assumption)
                         have q494 : (ji65) < (x4_1.length : Int) := of_decide_eq_true (by first | (with_reducible assumption) | assumption)
                         obtain ⟨ad494, e494, hx494_0⟩ := Kd.at_string (Kd.R_reads' HO_4.out).2.2 (ji65) p494 q494
                         cases e494
                         replace p494 := eq_true p494
                         replace q494 := eq_true q494
                         have p495 : 0 ≤ (x8_3 : Int) := of_decide_eq_true (by first | (with_reducible assumption) | assumption)
                         have q495 : x8_3 < (x4_1.length : Int) := of_decide_eq_true (by first | (with_reducible assumption) | assumption)
                         obtain ⟨ad495, e495, hx495_0⟩ := Kd.at_string (Kd.R_reads' HO_4.out).2.2 x8_3 p495 q495
                         obtain rfl : ad494 = ad495 := (by injection e495)
                         replace p495 := eq_true p495
                         replace q495 := eq_true q495
                         refine start_ (n := 11) (S := fun w' => w'.cell? (ad494.add ((ji65)).toNat) = some (.string (rdOf ByteArray.empty x4_1 (ji65))) ∧ w'.cell? (ad494.add (x8_3).toNat) = some (.string (rdOf ByteArray.empty x4_1 x8_3))) (ds := []) #[false, false, false, false, false, false, false, false, false, false, false] (by kernel_rfl) rfl rfl ⟨hx494_0, hx495_0⟩ (fun hHeld => ?_); refine with_tabW incipitlaw6_KeyChain.tab17 incipitlaw6_KeyChain.bits17 (fun HT_ HW_ => ?_)
                         generalize wr.drew = w75 at HO_4 HB hx494_0 hx495_0 hHeld ⊢
                         refine pure_ (i := 0) (N := some 71) (v := ?_) (a' := ?_) #[true, false, false, false, false, false, false, false, false, false, false] rfl rfl (any_of HT_.out (by kernel_rfl)) (fun _ _ _ h => h) (Or.inl ⟨by rfl, ?_⟩) ?_ ?_
                         rotate_left
                         · intro w'
                           go_simp
                           with_reducible rfl
                         rotate_left
                         · simp only [Act.put, List.setIfInBounds_toArray, List.set_cons_zero, List.set_cons_succ, i64_w, i32_w]
                           rfl
                         refine pure_ (i := 1) (N := some 72) (v := ?_) (a' := ?_) #[true, true, false, false, false, false, false, false, false, false, false] rfl rfl (any_of HT_.out (by kernel_rfl)) (fun _ _ _ h => h) (Or.inl ⟨by rfl, ?_⟩) ?_ ?_
                         rotate_left
                         · intro w'
                           go_simp
                           with_reducible rfl
                         rotate_left
                         · simp only [Act.put, List.setIfInBounds_toArray, List.set_cons_zero, List.set_cons_succ, i64_w, i32_w]
                           rfl
                         refine pure_ (i := 2) (N := some 73) (v := ?_) (a' := ?_) #[true, true, true, false, false, false, false, false, false, false, false] rfl rfl (any_of HT_.out (by kernel_rfl)) (fun _ _ _ h => h) (Or.inl ⟨by rfl, ?_⟩) ?_ ?_
                         rotate_left
                         · intro w'
                           go_simp
                           with_reducible rfl
                         rotate_left
                         · simp only [Act.put, List.setIfInBounds_toArray, List.set_cons_zero, List.set_cons_succ, i64_w, i32_w]
                           rfl
                         refine pure_ (i := 3) (N := some 74) (v := ?_) (a' := ?_) #[true, true, true, true, false, false, false, false, false, false, false] rfl rfl (any_of HT_.out (by kernel_rfl)) (fun _ _ _ h => h) (Or.inl ⟨by rfl, ?_⟩) ?_ ?_
                         rotate_left
                         · intro w'
                           go_simp
                           with_reducible rfl
                         rotate_left
                         · simp only [Act.put, List.setIfInBounds_toArray, List.set_cons_zero, List.set_cons_succ, i64_w, i32_w]
                           rfl
                         refine pure_ (i := 5) (N := some 76) (v := ?_) (a' := ?_) #[true, true, true, true, false, true, false, false, false, false, false] rfl rfl (any_of HT_.out (by kernel_rfl)) (fun _ _ _ h => h) (Or.inl ⟨by rfl, ?_⟩) ?_ ?_
                         rotate_left
                         · intro w'
                           go_simp
                           with_reducible rfl
                         rotate_left
                         · simp only [Act.put, List.setIfInBounds_toArray, List.set_cons_zero, List.set_cons_succ, i64_w, i32_w]
                           rfl
                         refine pure_ (i := 6) (N := some 77) (v := ?_) (a' := ?_) #[true, true, true, true, false, true, true, false, false, false, false] rfl rfl (any_of HT_.out (by kernel_rfl)) (fun _ _ _ h => h) (Or.inl ⟨by rfl, ?_⟩) ?_ ?_
                         rotate_left
                         · intro w'
                           go_simp
                           with_reducible rfl
                         rotate_left
                         · simp only [Act.put, List.setIfInBounds_toArray, List.set_cons_zero, List.set_cons_succ, i64_w, i32_w]
                           rfl
                         refine pure_ (i := 7) (N := some 78) (v := ?_) (a' := ?_) #[true, true, true, true, false, true, true, true, false, false, false] rfl rfl (any_of HT_.out (by kernel_rfl)) (fun _ _ _ h => h) (Or.inl ⟨by rfl, ?_⟩) ?_ ?_
                         rotate_left
                         · intro w'
                           go_simp
                           with_reducible rfl
                         rotate_left
                         · simp only [Act.put, List.setIfInBounds_toArray, List.set_cons_zero, List.set_cons_succ, i64_w, i32_w]
                           rfl
                         refine take_ (i := 4) (N := some 75) (v := ?_) (a' := ?_) #[true, true, true, true, true, true, true, true, false, false, false] rfl rfl (take_ofW HT_.out HW_.out (by kernel_rfl)) (fun _ _ _ h => h) (Or.inl ⟨by rfl, ?_⟩) hHeld ?_ ?_
                         rotate_left
                         · rintro w' ⟨s0, s1⟩
                           go_simp
                           with_reducible rfl
                         rotate_left
                         · simp only [Act.put, List.setIfInBounds_toArray, List.set_cons_zero, List.set_cons_succ, i64_w, i32_w]
                           rfl
                         refine take_ (i := 8) (N := some 79) (v := ?_) (a' := ?_) #[true, true, true, true, true, true, true, true, true, false, false] rfl rfl (take_ofW HT_.out HW_.out (by kernel_rfl)) (fun _ _ _ h => h) (Or.inl ⟨by rfl, ?_⟩) hHeld ?_ ?_
                         rotate_left
                         · rintro w' ⟨s0, s1⟩
                           go_simp
                           with_reducible rfl
                         rotate_left
                         · simp only [Act.put, List.setIfInBounds_toArray, List.set_cons_zero, List.set_cons_succ, i64_w, i32_w]
                           rfl
                         refine one_ (i := 9) (N := some 80) #[true, true, true, true, true, true, true, true, true, true, false] rfl rfl (one_of HT_.out (by kernel_rfl)) (by decide) (fun K hK => ?_)
                         refine goes_ Try.func10 (by kernel_rfl) rfl #[.string (rdOf ByteArray.empty x4_1 (ji65)), .string (rdOf ByteArray.empty x4_1 x8_3)] (by rfl) rfl rfl (by (try simp only [List.map_toArray, List.map_cons, List.map_nil]); first | done | (simp only [hji65]; rfl) | rfl | (simp only [List.length_drop, List.length_take]; rfl)) ?_
                         with_reducible refine (ckey_Between.calls k3 (rdOf ByteArray.empty x4_1 (ji65)) (rdOf ByteArray.empty x4_1 x8_3) t496 _ A69.out).mono ?_
                         rintro e w76 ⟨rfl, hb⟩
                         have HS0_ := (hb.cell (World.block_lt_of_cell? _ _ (hHeld.1))).trans (hHeld.1)
                         have HS1_ := (hb.cell (World.block_lt_of_cell? _ _ (hHeld.2))).trans (hHeld.2)
                         refine ⟨_, rfl, ?_⟩
                         have n0_ := Aside0.mk (Kd.R_below (by (with_reducible repeat (first | apply Kd.R_alloc | apply Kd.R_drewN | apply Kd.R_drew)); exact HO_4.out) hb)
                         have n1_ := Aside0.mk (below_step (by repeat (first | (with_reducible first | exact HB.out | apply below_alloc | apply pw_below_drewN | apply below_drew1) | exact HB.out)) hb)
                         clear HO_4
                         clear HB
                         have HO_4 := n0_
                         have HB := n1_
                         clear n0_ n1_
                         (try clear hb)
                         (try clear hb2)
                         (try clear hk)
                         (try clear hi)
                         refine hK.out _ _ ⟨HS0_, HS1_⟩ (fun hHeld => ?_)
                         clear hK K
                         refine norm_ (a' := ?_) ?_ ?_
                         rotate_left
                         · show Act.put _ (some 80) _ = _
                           simp only [Act.put, List.setIfInBounds_toArray, List.set_cons_zero, List.set_cons_succ, i64_w, i32_w]
                           rfl
                         refine pure_ (i := 10) (N := some 9) (v := ?_) (a' := ?_) #[true, true, true, true, true, true, true, true, true, true, true] rfl rfl (any_of HT_.out (by kernel_rfl)) (fun _ _ _ h => h) (Or.inl ⟨by rfl, ?_⟩) ?_ ?_
                         rotate_left
                         · intro w'
                           go_simp
                           with_reducible rfl
                         rotate_left
                         · simp only [Act.put, List.setIfInBounds_toArray, List.set_cons_zero, List.set_cons_succ, i64_w, i32_w]
                           rfl
                         refine done_ (done_of HT_.out (by kernel_rfl)) ?_
                         try go_wp2
                         have n0_ := Aside0.mk (Kd.R_drew HO_4.out)
                         have n1_ := Aside0.mk (below_drew1 HB.out)
                         clear HO_4
                         clear HB
                         have HO_4 := n0_
                         have HB := n1_
                         clear n0_ n1_
                         have p497 : 0 ≤ ((ji65) : Int) := of_decide_eq_true (by first | (with_reducible assumption) | assumption)
                         have q497 : (ji65) < (x4_1.length : Int) := of_decide_eq_true (by first | (with_reducible assumption) | assumption)
                         obtain ⟨ad497, e497, hx497_0⟩ := Kd.at_string (Kd.R_reads' HO_4.out).2.2 (ji65) p497 q497
                         obtain rfl : ad494 = ad497 := (by injection e497)
                         replace p497 := eq_true p497
                         replace q497 := eq_true q497
                         have p498 : 0 ≤ (x8_3 : Int) := of_decide_eq_true (by first | (with_reducible assumption) | assumption)
                         have q498 : x8_3 < (x4_1.length : Int) := of_decide_eq_true (by first | (with_reducible assumption) | assumption)
                         obtain ⟨ad498, e498, hx498_0⟩ := Kd.at_string (Kd.R_reads' HO_4.out).2.2 x8_3 p498 q498
                         obtain rfl : ad494 = ad498 := (by injection e498)
                         replace p498 := eq_true p498
                         replace q498 := eq_true q498
                         have p499 : 0 ≤ ((ji65) : Int) := of_decide_eq_true (by first | (with_reducible assumption) | assumption)
                         have q499 : (ji65) < (x4_1.length : Int) := of_decide_eq_true (by first | (with_reducible assumption) | assumption)
                         obtain ⟨ad499, e499, hx499_0⟩ := Kd.at_string (Kd.R_reads' HO_4.out).2.2 (ji65) p499 q499
                         obtain rfl : ad494 = ad499 := (by injection e499)
                         replace p499 := eq_true p499
                         replace q499 := eq_true q499
                         have p500 : 0 ≤ (x8_3 : Int) := of_decide_eq_true (by first | (with_reducible assumption) | assumption)
                         have q500 : x8_3 < (x4_1.length : Int) := of_decide_eq_true (by first | (with_reducible assumption) | assumption)
                         obtain ⟨ad500, e500, hx500_0⟩ := Kd.at_string (Kd.R_reads' HO_4.out).2.2 x8_3 p500 q500
                         obtain rfl : ad494 = ad500 := (by injection e500)
                         replace p500 := eq_true p500
                         replace q500 := eq_true q500
                         refine start_ (n := 29) (S := fun w' => w'.cell? (ad494.add ((ji65)).toNat) = some (.string (rdOf ByteArray.empty x4_1 (ji65))) ∧ w'.cell? (ad494.add (x8_3).toNat) = some (.string (rdOf ByteArray.empty x4_1 x8_3)) ∧ w'.cell? (ad494.add ((ji65)).toNat) = some (.string (rdOf ByteArray.empty x4_1 (ji65))) ∧ w'.cell? (ad494.add (x8_3).toNat) = some (.string (rdOf ByteArray.empty x4_1 x8_3))) (ds := []) #[false, false, false, false, false, false, false, false, false, false, false, false, false, false, false, false, false, false, false, false, false, false, false, false, false, false, false, false, false] (by kernel_rfl) rfl rfl ⟨hx497_0, hx498_0, hx499_0, hx500_0⟩ (fun hHeld => ?_); refine with_tabW incipitlaw6_KeyChain.tab18 incipitlaw6_KeyChain.bits18 (fun HT_ HW_ => ?_)
                         generalize w76.drew = w77 at HO_4 HB hx497_0 hx498_0 hx499_0 hx500_0 hHeld ⊢
                         refine pure_ (i := 0) (N := some 81) (v := ?_) (a' := ?_) #[true, false, false, false, false, false, false, false, false, false, false, false, false, false, false, false, false, false, false, false, false, false, false, false, false, false, false, false, false] rfl rfl (any_of HT_.out (by kernel_rfl)) (fun _ _ _ h => h) (Or.inl ⟨by rfl, ?_⟩) ?_ ?_
                         rotate_left
                         · intro w'
                           go_simp
                           with_reducible rfl
                         rotate_left
                         · simp only [Act.put, List.setIfInBounds_toArray, List.set_cons_zero, List.set_cons_succ, i64_w, i32_w]
                           rfl
                         refine pure_ (i := 1) (N := some 82) (v := ?_) (a' := ?_) #[true, true, false, false, false, false, false, false, false, false, false, false, false, false, false, false, false, false, false, false, false, false, false, false, false, false, false, false, false] rfl rfl (any_of HT_.out (by kernel_rfl)) (fun _ _ _ h => h) (Or.inl ⟨by rfl, ?_⟩) ?_ ?_
                         rotate_left
                         · intro w'
                           go_simp
                           with_reducible rfl
                         rotate_left
                         · simp only [Act.put, List.setIfInBounds_toArray, List.set_cons_zero, List.set_cons_succ, i64_w, i32_w]
                           rfl
                         refine pure_ (i := 2) (N := some 83) (v := ?_) (a' := ?_) #[true, true, true, false, false, false, false, false, false, false, false, false, false, false, false, false, false, false, false, false, false, false, false, false, false, false, false, false, false] rfl rfl (any_of HT_.out (by kernel_rfl)) (fun _ _ _ h => h) (Or.inl ⟨by rfl, ?_⟩) ?_ ?_
                         rotate_left
                         · intro w'
                           go_simp
                           with_reducible rfl
                         rotate_left
                         · simp only [Act.put, List.setIfInBounds_toArray, List.set_cons_zero, List.set_cons_succ, i64_w, i32_w]
                           rfl
                         refine pure_ (i := 3) (N := some 84) (v := ?_) (a' := ?_) #[true, true, true, true, false, false, false, false, false, false, false, false, false, false, false, false, false, false, false, false, false, false, false, false, false, false, false, false, false] rfl rfl (any_of HT_.out (by kernel_rfl)) (fun _ _ _ h => h) (Or.inl ⟨by rfl, ?_⟩) ?_ ?_
                         rotate_left
                         · intro w'
                           go_simp
                           with_reducible rfl
                         rotate_left
                         · simp only [Act.put, List.setIfInBounds_toArray, List.set_cons_zero, List.set_cons_succ, i64_w, i32_w]
                           rfl
                         refine pure_ (i := 4) (N := some 85) (v := ?_) (a' := ?_) #[true, true, true, true, true, false, false, false, false, false, false, false, false, false, false, false, false, false, false, false, false, false, false, false, false, false, false, false, false] rfl rfl (any_of HT_.out (by kernel_rfl)) (fun _ _ _ h => h) (Or.inl ⟨by rfl, ?_⟩) ?_ ?_
                         rotate_left
                         · intro w'
                           go_simp
                           with_reducible rfl
                         rotate_left
                         · simp only [Act.put, List.setIfInBounds_toArray, List.set_cons_zero, List.set_cons_succ, i64_w, i32_w]
                           rfl
                         refine take_ (i := 5) (N := some 86) (v := ?_) (a' := ?_) #[true, true, true, true, true, true, false, false, false, false, false, false, false, false, false, false, false, false, false, false, false, false, false, false, false, false, false, false, false] rfl rfl (take_ofW HT_.out HW_.out (by kernel_rfl)) (fun _ _ _ h => h) (Or.inl ⟨by rfl, ?_⟩) hHeld ?_ ?_
                         rotate_left
                         · rintro w' ⟨s0, s1, s2, s3⟩
                           go_simp
                           with_reducible rfl
                         rotate_left
                         · simp only [Act.put, List.setIfInBounds_toArray, List.set_cons_zero, List.set_cons_succ, i64_w, i32_w]
                           rfl
                         refine pure_ (i := 6) (N := some 87) (v := ?_) (a' := ?_) #[true, true, true, true, true, true, true, false, false, false, false, false, false, false, false, false, false, false, false, false, false, false, false, false, false, false, false, false, false] rfl rfl (any_of HT_.out (by kernel_rfl)) (fun _ _ _ h => h) (Or.inl ⟨by rfl, ?_⟩) ?_ ?_
                         rotate_left
                         · intro w'
                           go_simp
                           with_reducible rfl
                         rotate_left
                         · simp only [Act.put, List.setIfInBounds_toArray, List.set_cons_zero, List.set_cons_succ, i64_w, i32_w]
                           rfl
                         refine pure_ (i := 7) (N := some 88) (v := ?_) (a' := ?_) #[true, true, true, true, true, true, true, true, false, false, false, false, false, false, false, false, false, false, false, false, false, false, false, false, false, false, false, false, false] rfl rfl (any_of HT_.out (by kernel_rfl)) (fun _ _ _ h => h) (Or.inl ⟨by rfl, ?_⟩) ?_ ?_
                         rotate_left
                         · intro w'
                           go_simp
                           with_reducible rfl
                         rotate_left
                         · simp only [Act.put, List.setIfInBounds_toArray, List.set_cons_zero, List.set_cons_succ, i64_w, i32_w]
                           rfl
                         refine pure_ (i := 8) (N := some 89) (v := ?_) (a' := ?_) #[true, true, true, true, true, true, true, true, true, false, false, false, false, false, false, false, false, false, false, false, false, false, false, false, false, false, false, false, false] rfl rfl (any_of HT_.out (by kernel_rfl)) (fun _ _ _ h => h) (Or.inl ⟨by rfl, ?_⟩) ?_ ?_
                         rotate_left
                         · intro w'
                           go_simp
                           with_reducible rfl
                         rotate_left
                         · simp only [Act.put, List.setIfInBounds_toArray, List.set_cons_zero, List.set_cons_succ, i64_w, i32_w]
                           rfl
                         refine pure_ (i := 9) (N := some 90) (v := ?_) (a' := ?_) #[true, true, true, true, true, true, true, true, true, true, false, false, false, false, false, false, false, false, false, false, false, false, false, false, false, false, false, false, false] rfl rfl (any_of HT_.out (by kernel_rfl)) (fun _ _ _ h => h) (Or.inl ⟨by rfl, ?_⟩) ?_ ?_
                         rotate_left
                         · intro w'
                           go_simp
                           with_reducible rfl
                         rotate_left
                         · simp only [Act.put, List.setIfInBounds_toArray, List.set_cons_zero, List.set_cons_succ, i64_w, i32_w]
                           rfl
                         refine pure_ (i := 10) (N := some 91) (v := ?_) (a' := ?_) #[true, true, true, true, true, true, true, true, true, true, true, false, false, false, false, false, false, false, false, false, false, false, false, false, false, false, false, false, false] rfl rfl (any_of HT_.out (by kernel_rfl)) (fun _ _ _ h => h) (Or.inl ⟨by rfl, ?_⟩) ?_ ?_
                         rotate_left
                         · intro w'
                           go_simp
                           with_reducible rfl
                         rotate_left
                         · simp only [Act.put, List.setIfInBounds_toArray, List.set_cons_zero, List.set_cons_succ, i64_w, i32_w]
                           rfl
                         refine pure_ (i := 11) (N := some 92) (v := ?_) (a' := ?_) #[true, true, true, true, true, true, true, true, true, true, true, true, false, false, false, false, false, false, false, false, false, false, false, false, false, false, false, false, false] rfl rfl (any_of HT_.out (by kernel_rfl)) (fun _ _ _ h => h) (Or.inl ⟨by rfl, ?_⟩) ?_ ?_
                         rotate_left
                         · intro w'
                           go_simp
                           with_reducible rfl
                         rotate_left
                         · simp only [Act.put, List.setIfInBounds_toArray, List.set_cons_zero, List.set_cons_succ, i64_w, i32_w]
                           rfl
                         refine take_ (i := 12) (N := some 93) (v := ?_) (a' := ?_) #[true, true, true, true, true, true, true, true, true, true, true, true, true, false, false, false, false, false, false, false, false, false, false, false, false, false, false, false, false] rfl rfl (take_ofW HT_.out HW_.out (by kernel_rfl)) (fun _ _ _ h => h) (Or.inl ⟨by rfl, ?_⟩) hHeld ?_ ?_
                         rotate_left
                         · rintro w' ⟨s0, s1, s2, s3⟩
                           go_simp
                           with_reducible rfl
                         rotate_left
                         · simp only [Act.put, List.setIfInBounds_toArray, List.set_cons_zero, List.set_cons_succ, i64_w, i32_w]
                           rfl
                         refine pure_ (i := 13) (N := some 94) (v := ?_) (a' := ?_) #[true, true, true, true, true, true, true, true, true, true, true, true, true, true, false, false, false, false, false, false, false, false, false, false, false, false, false, false, false] rfl rfl (any_of HT_.out (by kernel_rfl)) (fun _ _ _ h => h) (Or.inl ⟨by rfl, ?_⟩) ?_ ?_
                         rotate_left
                         · intro w'
                           go_simp
                           with_reducible rfl
                         rotate_left
                         · simp only [Act.put, List.setIfInBounds_toArray, List.set_cons_zero, List.set_cons_succ, i64_w, i32_w]
                           rfl
                         refine pure_ (i := 14) (N := some 95) (v := ?_) (a' := ?_) #[true, true, true, true, true, true, true, true, true, true, true, true, true, true, true, false, false, false, false, false, false, false, false, false, false, false, false, false, false] rfl rfl (any_of HT_.out (by kernel_rfl)) (fun _ _ _ h => h) (Or.inl ⟨by rfl, ?_⟩) ?_ ?_
                         rotate_left
                         · intro w'
                           go_simp
                           with_reducible rfl
                         rotate_left
                         · simp only [Act.put, List.setIfInBounds_toArray, List.set_cons_zero, List.set_cons_succ, i64_w, i32_w]
                           rfl
                         refine pure_ (i := 15) (N := some 96) (v := ?_) (a' := ?_) #[true, true, true, true, true, true, true, true, true, true, true, true, true, true, true, true, false, false, false, false, false, false, false, false, false, false, false, false, false] rfl rfl (any_of HT_.out (by kernel_rfl)) (fun _ _ _ h => h) (Or.inl ⟨by rfl, ?_⟩) ?_ ?_
                         rotate_left
                         · intro w'
                           go_simp
                           with_reducible rfl
                         rotate_left
                         · simp only [Act.put, List.setIfInBounds_toArray, List.set_cons_zero, List.set_cons_succ, i64_w, i32_w]
                           rfl
                         refine pure_ (i := 16) (N := some 97) (v := ?_) (a' := ?_) #[true, true, true, true, true, true, true, true, true, true, true, true, true, true, true, true, true, false, false, false, false, false, false, false, false, false, false, false, false] rfl rfl (any_of HT_.out (by kernel_rfl)) (fun _ _ _ h => h) (Or.inl ⟨by rfl, ?_⟩) ?_ ?_
                         rotate_left
                         · intro w'
                           go_simp
                           with_reducible rfl
                         rotate_left
                         · simp only [Act.put, List.setIfInBounds_toArray, List.set_cons_zero, List.set_cons_succ, i64_w, i32_w]
                           rfl
                         refine pure_ (i := 17) (N := some 98) (v := ?_) (a' := ?_) #[true, true, true, true, true, true, true, true, true, true, true, true, true, true, true, true, true, true, false, false, false, false, false, false, false, false, false, false, false] rfl rfl (any_of HT_.out (by kernel_rfl)) (fun _ _ _ h => h) (Or.inl ⟨by rfl, ?_⟩) ?_ ?_
                         rotate_left
                         · intro w'
                           go_simp
                           with_reducible rfl
                         rotate_left
                         · simp only [Act.put, List.setIfInBounds_toArray, List.set_cons_zero, List.set_cons_succ, i64_w, i32_w]
                           rfl
                         refine pure_ (i := 18) (N := some 99) (v := ?_) (a' := ?_) #[true, true, true, true, true, true, true, true, true, true, true, true, true, true, true, true, true, true, true, false, false, false, false, false, false, false, false, false, false] rfl rfl (any_of HT_.out (by kernel_rfl)) (fun _ _ _ h => h) (Or.inl ⟨by rfl, ?_⟩) ?_ ?_
                         rotate_left
                         · intro w'
                           go_simp
                           with_reducible rfl
                         rotate_left
                         · simp only [Act.put, List.setIfInBounds_toArray, List.set_cons_zero, List.set_cons_succ, i64_w, i32_w]
                           rfl
                         refine pure_ (i := 19) (N := some 100) (v := ?_) (a' := ?_) #[true, true, true, true, true, true, true, true, true, true, true, true, true, true, true, true, true, true, true, true, false, false, false, false, false, false, false, false, false] rfl rfl (any_of HT_.out (by kernel_rfl)) (fun _ _ _ h => h) (Or.inl ⟨by rfl, ?_⟩) ?_ ?_
                         rotate_left
                         · intro w'
                           go_simp
                           with_reducible rfl
                         rotate_left
                         · simp only [Act.put, List.setIfInBounds_toArray, List.set_cons_zero, List.set_cons_succ, i64_w, i32_w]
                           rfl
                         refine pure_ (i := 20) (N := some 101) (v := ?_) (a' := ?_) #[true, true, true, true, true, true, true, true, true, true, true, true, true, true, true, true, true, true, true, true, true, false, false, false, false, false, false, false, false] rfl rfl (any_of HT_.out (by kernel_rfl)) (fun _ _ _ h => h) (Or.inl ⟨by rfl, ?_⟩) ?_ ?_
                         rotate_left
                         · intro w'
                           go_simp
                           with_reducible rfl
                         rotate_left
                         · simp only [Act.put, List.setIfInBounds_toArray, List.set_cons_zero, List.set_cons_succ, i64_w, i32_w]
                           rfl
                         refine pure_ (i := 22) (N := some 103) (v := ?_) (a' := ?_) #[true, true, true, true, true, true, true, true, true, true, true, true, true, true, true, true, true, true, true, true, true, false, true, false, false, false, false, false, false] rfl rfl (any_of HT_.out (by kernel_rfl)) (fun _ _ _ h => h) (Or.inl ⟨by rfl, ?_⟩) ?_ ?_
                         rotate_left
                         · intro w'
                           go_simp
                           with_reducible rfl
                         rotate_left
                         · simp only [Act.put, List.setIfInBounds_toArray, List.set_cons_zero, List.set_cons_succ, i64_w, i32_w]
                           rfl
                         refine pure_ (i := 23) (N := some 104) (v := ?_) (a' := ?_) #[true, true, true, true, true, true, true, true, true, true, true, true, true, true, true, true, true, true, true, true, true, false, true, true, false, false, false, false, false] rfl rfl (any_of HT_.out (by kernel_rfl)) (fun _ _ _ h => h) (Or.inl ⟨by rfl, ?_⟩) ?_ ?_
                         rotate_left
                         · intro w'
                           go_simp
                           with_reducible rfl
                         rotate_left
                         · simp only [Act.put, List.setIfInBounds_toArray, List.set_cons_zero, List.set_cons_succ, i64_w, i32_w]
                           rfl
                         refine pure_ (i := 24) (N := some 105) (v := ?_) (a' := ?_) #[true, true, true, true, true, true, true, true, true, true, true, true, true, true, true, true, true, true, true, true, true, false, true, true, true, false, false, false, false] rfl rfl (any_of HT_.out (by kernel_rfl)) (fun _ _ _ h => h) (Or.inl ⟨by rfl, ?_⟩) ?_ ?_
                         rotate_left
                         · intro w'
                           go_simp
                           with_reducible rfl
                         rotate_left
                         · simp only [Act.put, List.setIfInBounds_toArray, List.set_cons_zero, List.set_cons_succ, i64_w, i32_w]
                           rfl
                         refine take_ (i := 21) (N := some 102) (v := ?_) (a' := ?_) #[true, true, true, true, true, true, true, true, true, true, true, true, true, true, true, true, true, true, true, true, true, true, true, true, true, false, false, false, false] rfl rfl (take_ofW HT_.out HW_.out (by kernel_rfl)) (fun _ _ _ h => h) (Or.inl ⟨by rfl, ?_⟩) hHeld ?_ ?_
                         rotate_left
                         · rintro w' ⟨s0, s1, s2, s3⟩
                           go_simp
                           with_reducible rfl
                         rotate_left
                         · simp only [Act.put, List.setIfInBounds_toArray, List.set_cons_zero, List.set_cons_succ, i64_w, i32_w]
                           rfl
                         refine take_ (i := 25) (N := some 106) (v := ?_) (a' := ?_) #[true, true, true, true, true, true, true, true, true, true, true, true, true, true, true, true, true, true, true, true, true, true, true, true, true, true, false, false, false] rfl rfl (take_ofW HT_.out HW_.out (by kernel_rfl)) (fun _ _ _ h => h) (Or.inl ⟨by rfl, ?_⟩) hHeld ?_ ?_
                         rotate_left
                         · rintro w' ⟨s0, s1, s2, s3⟩
                           go_simp
                           with_reducible rfl
                         rotate_left
                         · simp only [Act.put, List.setIfInBounds_toArray, List.set_cons_zero, List.set_cons_succ, i64_w, i32_w]
                           rfl
                         refine one_ (i := 26) (N := some 107) #[true, true, true, true, true, true, true, true, true, true, true, true, true, true, true, true, true, true, true, true, true, true, true, true, true, true, true, false, false] rfl rfl (one_of HT_.out (by kernel_rfl)) (by decide) (fun K hK => ?_)
                         refine goes_ Try.func11 (by kernel_rfl) rfl #[.string (rdOf ByteArray.empty x4_1 (ji65)), .string (rdOf ByteArray.empty x4_1 x8_3)] (by rfl) rfl rfl (by (try simp only [List.map_toArray, List.map_cons, List.map_nil]); first | done | (simp only [hji65]; rfl) | rfl | (simp only [List.length_drop, List.length_take]; rfl)) ?_
                         with_reducible refine (incipitref1_Between.calls k3 (rdOf ByteArray.empty x4_1 (ji65)) (rdOf ByteArray.empty x4_1 x8_3) t501 _ A72.out).mono ?_
                         rintro e w78 ⟨rfl, hb⟩
                         have HS0_ := (hb.cell (World.block_lt_of_cell? _ _ (hHeld.1))).trans (hHeld.1)
                         have HS1_ := (hb.cell (World.block_lt_of_cell? _ _ (hHeld.2.1))).trans (hHeld.2.1)
                         have HS2_ := (hb.cell (World.block_lt_of_cell? _ _ (hHeld.2.2.1))).trans (hHeld.2.2.1)
                         have HS3_ := (hb.cell (World.block_lt_of_cell? _ _ (hHeld.2.2.2))).trans (hHeld.2.2.2)
                         refine ⟨_, rfl, ?_⟩
                         have n0_ := Aside0.mk (Kd.R_below (by (with_reducible repeat (first | apply Kd.R_alloc | apply Kd.R_drewN | apply Kd.R_drew)); exact HO_4.out) hb)
                         have n1_ := Aside0.mk (below_step (by repeat (first | (with_reducible first | exact HB.out | apply below_alloc | apply pw_below_drewN | apply below_drew1) | exact HB.out)) hb)
                         clear HO_4
                         clear HB
                         have HO_4 := n0_
                         have HB := n1_
                         clear n0_ n1_
                         (try clear hb)
                         (try clear hb2)
                         (try clear hk)
                         (try clear hi)
                         refine hK.out _ _ ⟨HS0_, HS1_, HS2_, HS3_⟩ (fun hHeld => ?_)
                         clear hK K
                         refine norm_ (a' := ?_) ?_ ?_
                         rotate_left
                         · show Act.put _ (some 107) _ = _
                           simp only [Act.put, List.setIfInBounds_toArray, List.set_cons_zero, List.set_cons_succ, i64_w, i32_w]
                           rfl
                         refine pure_ (i := 27) (N := some 108) (v := ?_) (a' := ?_) #[true, true, true, true, true, true, true, true, true, true, true, true, true, true, true, true, true, true, true, true, true, true, true, true, true, true, true, true, false] rfl rfl (any_of HT_.out (by kernel_rfl)) (fun _ _ _ h => h) (Or.inl ⟨by rfl, ?_⟩) ?_ ?_
                         rotate_left
                         · intro w'
                           go_simp
                           with_reducible rfl
                         rotate_left
                         · simp only [Act.put, List.setIfInBounds_toArray, List.set_cons_zero, List.set_cons_succ, i64_w, i32_w]
                           rfl
                         refine pure_ (i := 28) (N := some 109) (v := ?_) (a' := ?_) #[true, true, true, true, true, true, true, true, true, true, true, true, true, true, true, true, true, true, true, true, true, true, true, true, true, true, true, true, true] rfl rfl (any_of HT_.out (by kernel_rfl)) (fun _ _ _ h => h) (Or.inl ⟨by rfl, ?_⟩) ?_ ?_
                         rotate_left
                         · intro w'
                           go_simp
                           with_reducible rfl
                         rotate_left
                         · simp only [Act.put, List.setIfInBounds_toArray, List.set_cons_zero, List.set_cons_succ, i64_w, i32_w]
                           rfl
                         refine done_ (done_of HT_.out (by kernel_rfl)) ?_
                         try go_wp2
                         go_roundg k3
                         case measure => have := HK1.out; have := HJ4.out; have := HK3.out; omega
                         case rel => exact ⟨(wrap64 (x8_3 + 1)), (by first | rfl | (simp; done) | (simp [*]; done)), H', ⟨by have := HK1.out; have := HJ4.out; have := HK3.out; omega⟩, ⟨by (with_reducible repeat (first | apply Kd.R_alloc | apply Kd.R_drewN | apply Kd.R_drew)); exact HO_4.out⟩, ⟨by repeat (first | (with_reducible first | exact HB.out | apply below_alloc | apply pw_below_drewN | apply below_drew1) | exact HB.out)⟩⟩
                       · rw [if_neg c73] at H
                         exact absurd H (by simp)
                     · rw [if_neg c71] at H
                       exact absurd H (by simp)
                 · rw [if_neg c68] at H
                   exact absurd H (by simp)
               · rw [if_neg c67] at H
                 exact absurd H (by simp)
             · rw [if_neg c66] at H
               exact absurd H (by simp)
           · rw [if_neg c64] at H
             have c64b0 : decide (x8_3 < (x4_1.length : Int)) = false := decide_eq_false c64
             clear c64
             obtain rfl := Option.some.inj H
             obtain ⟨Ao79, co79, eo79⟩ := Kd.R_slice HO_4.out
             subst eo79
             go_wp2
             go_ret
             exact ⟨by first | rfl | (simp [errW_none, errW_some] <;> rfl) | (simp [*, errW_none, errW_some] <;> rfl), by repeat (first | (with_reducible first | exact HB.out | apply below_alloc | apply pw_below_drewN | apply below_drew1) | exact HB.out)⟩
 · replace c3 := Bool.eq_false_iff.mpr c3
   subst c3
   have H1 : (none) = some r := by rw [if_neg (show ¬ (false = true) by decide)] at H; exact H
   clear H
   have H := H1
   clear H1
   exact absurd H (by simp)

end Go.Proofs.Ytiplbhjllkfemaa.MAll
