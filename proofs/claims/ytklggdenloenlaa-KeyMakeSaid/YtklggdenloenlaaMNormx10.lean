-- written by mp.py, a program of this session's over the kit's printer
import Derived.Test.YtklggdenloenlaaMNormx0
import Derived.Test.YtklggdenloenlaaMNormx9
namespace Go.Proofs.Ytklggdenloenlaa.MNorm
open Go.RowKit Go.Proofs.YtklggdenloenlaaW.PrintWords Go.Proofs.YtklggdenloenlaaW.PrintLast Go.Proofs.YtklggdenloenlaaW.PrintMore
attribute [local go_sem] max2_int min2_int max_two min_two max_three min_three max_four min_four   -- for this text's walks alone
set_option linter.unusedVariables false
set_option linter.unusedSimpArgs false

/-! ### incipitref1_number: function 47 -/
def incipitref1_number.l0 : Nat → ByteArray → Int → Int → Int → Option (Int)
 | 0, _, _, _, _ => none
 | k + 1, x0, x1, x5, x6 => if x6 < (x0.size : Int) then (if 0 ≤ x6 then (if (bt x0 x6) ≥ 65 then (incipitref1_number.l0 k x0 x1 (wrap64 ((wrap64 (x5 * x1)) + ((((bt x0 x6) - 65) % 256) + 10))) (wrap64 (x6 + 1))) else (incipitref1_number.l0 k x0 x1 (wrap64 ((wrap64 (x5 * x1)) + (((bt x0 x6) - 48) % 256))) (wrap64 (x6 + 1)))) else (none)) else (some x5)
def incipitref1_number.f (k : Nat) (a0 : ByteArray) (a1 : Int) : Option (Int) := incipitref1_number.l0 k a0 a1 0 0
theorem incipitref1_number.mono_l : ∀ k, (∀ y0 y1 y2 y3, LeO (incipitref1_number.l0 k y0 y1 y2 y3) (incipitref1_number.l0 (k + 1) y0 y1 y2 y3))
 | 0 => fun _ _ _ _ r h => by simp [incipitref1_number.l0] at h
 | k + 1 => by
  have ih0 := incipitref1_number.mono_l k
  · intro y0 y1 y2 y3
    unfold incipitref1_number.l0
    repeat' first
    | (with_reducible exact ih0 _ _ _ _)
    | (with_reducible exact LeO.refl _)
    | (with_reducible exact LeO.none _)
    | (with_reducible refine LeO.ite ?_ ?_)
    | (with_reducible refine LeO.bind ?_ (fun _ => ?_))
    | exact ih0 _ _ _ _
    | exact LeO.none _
    | refine LeO.ite ?_ ?_
    | refine LeO.bind ?_ (fun _ => ?_)
theorem incipitref1_number.mono : ∀ a0 a1 k, LeO (incipitref1_number.f k a0 a1) (incipitref1_number.f (k + 1) a0 a1) := by
 intro a0 a1 k
 have ih0 := incipitref1_number.mono_l k
 unfold incipitref1_number.f
 repeat' first
  | (with_reducible exact ih0 _ _ _ _)
  | (with_reducible exact LeO.refl _)
  | (with_reducible exact LeO.none _)
  | (with_reducible refine LeO.ite ?_ ?_)
  | (with_reducible refine LeO.bind ?_ (fun _ => ?_))
  | exact ih0 _ _ _ _
  | exact LeO.none _
  | refine LeO.ite ?_ ?_
  | refine LeO.bind ?_ (fun _ => ?_)
set_option maxHeartbeats 8000000 in
set_option maxRecDepth 100000 in
theorem incipitref1_number.calls (k : Nat) (a0 : ByteArray) (a1 : Int) (r : Int) (w : World) (h : incipitref1_number.f k a0 a1 = some r) :
 Calls Try.prog 47 #[.string a0, .int .i64 a1] w fun e w' => e = .returned (.int .i64 r) ∧ Drawn0 w w' := by
 have H : (incipitref1_number.l0 k a0 a1 0 0) = some r := h
 clear h
 have H' := Aside0.mk H
 clear H
 go_enter Try.func47, Try.ntmps47
 go_wp2
 try simp only [Act.put, List.setIfInBounds_toArray, List.set_cons_succ, List.set_cons_zero]
 go_loopg [5, 6] k (fun kq v5 v6 w' => ∃ (x5_1 : Int) (x6_1 : Int), v5 = .int .i64 x5_1 ∧ v6 = .int .i64 x6_1 ∧ Aside0 (incipitref1_number.l0 kq a0 a1 x5_1 x6_1 = some r) ∧ Aside0 (kq ≤ k) ∧ Drawn0 w w')
 case atStart => exact ⟨(0), (0), (by first | rfl | (simp; done) | (simp [*]; done)), (by first | rfl | (simp; done) | (simp [*]; done)), H', ⟨Nat.le_refl _⟩, by repeat (first | exact Drawn0.refl _ | apply Drawn0.step)⟩
 case round =>
  clear H'
  try clear p2
  obtain ⟨x5_1, x6_1, rfl, rfl, HA, HK1, ⟨m1, rfl⟩⟩ := hrel
  cases gk with
  | zero => exact absurd HA.out (by simp [incipitref1_number.l0])
  | succ k1 =>
   have H := HA.out
   clear HA
   simp only [incipitref1_number.l0] at H
   by_cases c3 : x6_1 < (a0.size : Int)
   · rw [if_pos c3] at H
     have c3b0 : decide (x6_1 < (a0.size : Int)) = true := decide_eq_true c3
     clear c3
     by_cases c4 : 0 ≤ x6_1
     · rw [if_pos c4] at H
       have c4b0 : decide (0 ≤ x6_1) = true := decide_eq_true c4
       clear c4
       by_cases c7 : (bt a0 x6_1) ≥ 65
       · rw [if_pos c7] at H
         have c7b0 : decide (65 ≤ (bt a0 x6_1)) = true := decide_eq_true c7
         clear c7
         have H' := Aside0.mk H
         clear H
         have p5 : 0 ≤ (x6_1 : Int) := of_decide_eq_true (by first | (with_reducible assumption) | assumption)
         have q5 : x6_1 < (a0.size : Int) := of_decide_eq_true (by first | (with_reducible assumption) | assumption)
         have hx5 := bt_at a0 x6_1
         replace p5 := eq_true p5
         replace q5 := eq_true q5
         have p6 : 0 ≤ (x6_1 : Int) := of_decide_eq_true (by first | (with_reducible assumption) | assumption)
         have q6 : x6_1 < (a0.size : Int) := of_decide_eq_true (by first | (with_reducible assumption) | assumption)
         have hx6 := bt_at a0 x6_1
         replace p6 := eq_true p6
         replace q6 := eq_true q6
         have p8 : 0 ≤ (x6_1 : Int) := of_decide_eq_true (by first | (with_reducible assumption) | assumption)
         have q8 : x6_1 < (a0.size : Int) := of_decide_eq_true (by first | (with_reducible assumption) | assumption)
         have hx8 := bt_at a0 x6_1
         replace p8 := eq_true p8
         replace q8 := eq_true q8
         go_wp2
         go_roundg k1
         case measure => have := HK1.out; omega
         case rel => exact ⟨(wrap64 ((wrap64 (x5_1 * a1)) + ((((bt a0 x6_1) - 65) % 256) + 10))), (wrap64 (x6_1 + 1)), (by first | rfl | (simp; done) | (simp [*]; done)), (by first | rfl | (simp; done) | (simp [*]; done)), H', ⟨by have := HK1.out; omega⟩, by repeat (first | exact Drawn0.refl _ | apply Drawn0.step)⟩
       · rw [if_neg c7] at H
         have c7b0 : decide (65 ≤ (bt a0 x6_1)) = false := decide_eq_false c7
         clear c7
         have H' := Aside0.mk H
         clear H
         have p5 : 0 ≤ (x6_1 : Int) := of_decide_eq_true (by first | (with_reducible assumption) | assumption)
         have q5 : x6_1 < (a0.size : Int) := of_decide_eq_true (by first | (with_reducible assumption) | assumption)
         have hx5 := bt_at a0 x6_1
         replace p5 := eq_true p5
         replace q5 := eq_true q5
         have p6 : 0 ≤ (x6_1 : Int) := of_decide_eq_true (by first | (with_reducible assumption) | assumption)
         have q6 : x6_1 < (a0.size : Int) := of_decide_eq_true (by first | (with_reducible assumption) | assumption)
         have hx6 := bt_at a0 x6_1
         replace p6 := eq_true p6
         replace q6 := eq_true q6
         go_wp2
         go_roundg k1
         case measure => have := HK1.out; omega
         case rel => exact ⟨(wrap64 ((wrap64 (x5_1 * a1)) + (((bt a0 x6_1) - 48) % 256))), (wrap64 (x6_1 + 1)), (by first | rfl | (simp; done) | (simp [*]; done)), (by first | rfl | (simp; done) | (simp [*]; done)), H', ⟨by have := HK1.out; omega⟩, by repeat (first | exact Drawn0.refl _ | apply Drawn0.step)⟩
     · rw [if_neg c4] at H
       exact absurd H (by simp)
   · rw [if_neg c3] at H
     have c3b0 : decide (x6_1 < (a0.size : Int)) = false := decide_eq_false c3
     clear c3
     obtain rfl := Option.some.inj H
     go_wp2
     go_ret
     exact ⟨by first | rfl | (simp; done) | (simp [*]; done), by repeat (first | exact Drawn0.refl _ | apply Drawn0.step)⟩

/-! ### incipitref1_Map: function 44 -/
mutual
def incipitref1_Map.l0 : Nat → Int → List ByteArray → Int → Option (List Int)
 | 0, _, _, _ => none
 | k + 1, x0, x3, x4 => if x4 < (x3.length : Int) then (if 0 ≤ x4 then ((incipitref1_words.f k (rdOf ByteArray.empty x3 x4)).bind fun t259 => (if 0 < (t259.length : Int) then ((incipitref1_number.f k (rdOf ByteArray.empty t259 0) 16).bind fun t263 => (if t263 = x0 then (incipitref1_Map.l1 k t259 ([] : List Int) 1) else (incipitref1_Map.l0 k x0 x3 (wrap64 (x4 + 1))))) else (none))) else (none)) else (some ([] : List Int))
def incipitref1_Map.l1 : Nat → List ByteArray → List Int → Int → Option (List Int)
 | 0, _, _, _ => none
 | k + 1, x5, x6, x7 => if x7 < (x5.length : Int) then (if 0 ≤ x7 then ((incipitref1_number.f k (rdOf ByteArray.empty x5 x7) 16).bind fun t265 => (if x6.length < 17592186044416 then (incipitref1_Map.l1 k x5 (x6 ++ [t265]) (wrap64 (x7 + 1))) else (none))) else (none)) else (some x6)
end
def incipitref1_Map.f (k : Nat) (a0 : Int) : Option (List Int) := if a0 < 192 then (some ([] : List Int)) else ((incipitref1_lines.f k lit_31b68b).bind fun t255 => (incipitref1_Map.l0 k a0 t255 0))
theorem incipitref1_Map.mono_l : ∀ k, (∀ y0 y1 y2, LeO (incipitref1_Map.l0 k y0 y1 y2) (incipitref1_Map.l0 (k + 1) y0 y1 y2)) ∧ (∀ y0 y1 y2, LeO (incipitref1_Map.l1 k y0 y1 y2) (incipitref1_Map.l1 (k + 1) y0 y1 y2))
 | 0 => ⟨fun _ _ _ r h => by simp [incipitref1_Map.l0] at h, fun _ _ _ r h => by simp [incipitref1_Map.l1] at h⟩
 | k + 1 => by
  obtain ⟨ih0, ih1⟩ := incipitref1_Map.mono_l k
  refine ⟨?_, ?_⟩
  · intro y0 y1 y2
    unfold incipitref1_Map.l0
    repeat' first
    | (with_reducible exact ih0 _ _ _)
    | (with_reducible exact ih1 _ _ _)
    | (with_reducible exact incipitref1_lines.mono _ _)
    | (with_reducible exact incipitref1_number.mono _ _ _)
    | (with_reducible exact incipitref1_words.mono _ _)
    | (with_reducible exact LeO.refl _)
    | (with_reducible exact LeO.none _)
    | (with_reducible refine LeO.ite ?_ ?_)
    | (with_reducible refine LeO.bind ?_ (fun _ => ?_))
    | exact ih0 _ _ _
    | exact ih1 _ _ _
    | exact incipitref1_lines.mono _ _
    | exact incipitref1_number.mono _ _ _
    | exact incipitref1_words.mono _ _
    | exact LeO.none _
    | refine LeO.ite ?_ ?_
    | refine LeO.bind ?_ (fun _ => ?_)
  · intro y0 y1 y2
    unfold incipitref1_Map.l1
    repeat' first
    | (with_reducible exact ih0 _ _ _)
    | (with_reducible exact ih1 _ _ _)
    | (with_reducible exact incipitref1_lines.mono _ _)
    | (with_reducible exact incipitref1_number.mono _ _ _)
    | (with_reducible exact incipitref1_words.mono _ _)
    | (with_reducible exact LeO.refl _)
    | (with_reducible exact LeO.none _)
    | (with_reducible refine LeO.ite ?_ ?_)
    | (with_reducible refine LeO.bind ?_ (fun _ => ?_))
    | exact ih0 _ _ _
    | exact ih1 _ _ _
    | exact incipitref1_lines.mono _ _
    | exact incipitref1_number.mono _ _ _
    | exact incipitref1_words.mono _ _
    | exact LeO.none _
    | refine LeO.ite ?_ ?_
    | refine LeO.bind ?_ (fun _ => ?_)
theorem incipitref1_Map.mono : ∀ a0 k, LeO (incipitref1_Map.f k a0) (incipitref1_Map.f (k + 1) a0) := by
 intro a0 k
 obtain ⟨ih0, ih1⟩ := incipitref1_Map.mono_l k
 unfold incipitref1_Map.f
 repeat' first
  | (with_reducible exact ih0 _ _ _)
  | (with_reducible exact ih1 _ _ _)
  | (with_reducible exact incipitref1_lines.mono _ _)
  | (with_reducible exact incipitref1_number.mono _ _ _)
  | (with_reducible exact incipitref1_words.mono _ _)
  | (with_reducible exact LeO.refl _)
  | (with_reducible exact LeO.none _)
  | (with_reducible refine LeO.ite ?_ ?_)
  | (with_reducible refine LeO.bind ?_ (fun _ => ?_))
  | exact ih0 _ _ _
  | exact ih1 _ _ _
  | exact incipitref1_lines.mono _ _
  | exact incipitref1_number.mono _ _ _
  | exact incipitref1_words.mono _ _
  | exact LeO.none _
  | refine LeO.ite ?_ ?_
  | refine LeO.bind ?_ (fun _ => ?_)
set_option maxHeartbeats 8000000 in
set_option maxRecDepth 100000 in
theorem incipitref1_Map.calls (k : Nat) (a0 : Int) (r : List Int) (w : World) (h : incipitref1_Map.f k a0 = some r) :
 Calls Try.prog 44 #[.int .i64 a0] w fun e w' => ∃ v0_ : Value, e = .returned (v0_) ∧ Kd.R (Kd.int .i64) 3 w' w.heap.size (fun _ => True) v0_ r ∧ Below w.heap.size w w' := by
 have HB := Aside0.mk (Below.refl w.heap.size w)
 have H : (if a0 < 192 then (some ([] : List Int)) else ((incipitref1_lines.f k lit_31b68b).bind fun t255 => (incipitref1_Map.l0 k a0 t255 0))) = some r := h
 clear h
 by_cases c2 : a0 < 192
 · rw [if_pos c2] at H
   have c2b0 : decide (a0 < 192) = true := decide_eq_true c2
   clear c2
   obtain rfl := Option.some.inj H
   go_enter Try.func44, Try.ntmps44
   rw [← lit_31b68b_eq]
   go_wp2
   go_ret
   exact ⟨_, by first | rfl | (simp [errW_none, errW_some] <;> rfl) | (simp [*, errW_none, errW_some] <;> rfl), by first | exact Kd.R_nil _ _ _ _ _ | exact Kd.N_nil _ _ _ _ _ | exact Kd.V_nil _ _ _ _ _ | exact Kd.Q_nil _ _ _ _ _ | exact Kd.S_nil _ _ _ _ _, by repeat (first | (with_reducible first | exact HB.out | apply below_alloc | apply pw_below_drewN | apply below_drew1) | exact HB.out)⟩
 · rw [if_neg c2] at H
   have c2b0 : decide (a0 < 192) = false := decide_eq_false c2
   clear c2
   replace H := Option.bind_eq_some_iff.mp H
   obtain ⟨t255, A30, H⟩ := H
   replace H : (incipitref1_Map.l0 k a0 t255 0) = some r := H
   have A3 := Aside0.mk A30
   clear A30
   have H' := Aside0.mk H
   clear H
   go_enter Try.func44, Try.ntmps44
   rw [← lit_31b68b_eq]
   go_wp2_with (first | ((with_reducible refine gate_callee (f := 45) rfl ?_); refine goesL_ (some 10) rfl rfl Try.func45 (by kernel_rfl) rfl #[.string lit_31b68b] rfl (by (try simp only [List.map_toArray, List.map_cons, List.map_nil]); first | done | rfl | (simp only [List.length_drop, List.length_take]; rfl)) ?_; (with_reducible refine (incipitref1_lines.calls k lit_31b68b t255 _ A3.out).mono ?_); rintro e w4 ⟨v256, rfl, ho0, hb⟩; refine ⟨_, rfl, ?_⟩; have n0_ := Aside0.mk (Kd.R_lower ho0 (below_size (by repeat (first | (with_reducible first | exact HB.out | apply below_alloc | apply pw_below_drewN | apply below_drew1) | exact HB.out)))); have n1_ := Aside0.mk (below_step (by repeat (first | (with_reducible first | exact HB.out | apply below_alloc | apply pw_below_drewN | apply below_drew1) | exact HB.out)) hb); clear HB; have HO257 := n0_; have HB := n1_; clear n0_ n1_; (try clear hb); (try clear hb2); (try clear hk); (try clear hi); (try clear ho0)))
   try simp only [Act.put, List.setIfInBounds_toArray, List.set_cons_succ, List.set_cons_zero]
   go_loopg [4] k (fun kq v4 w' => ∃ (x4_1 : Int), v4 = .int .i64 x4_1 ∧ Aside0 (incipitref1_Map.l0 kq a0 t255 x4_1 = some r) ∧ Aside0 (kq ≤ k) ∧ Aside0 (Kd.R Kd.string 9 w' w.heap.size (fun _ => True) v256 t255) ∧ Aside0 (Below w.heap.size w w'))
   case atStart => exact ⟨(0), (by first | rfl | (simp; done) | (simp [*]; done)), H', ⟨Nat.le_refl _⟩, ⟨by (with_reducible repeat (first | apply Kd.R_alloc | apply Kd.R_drewN | apply Kd.R_drew)); exact HO257.out⟩, ⟨by repeat (first | (with_reducible first | exact HB.out | apply below_alloc | apply pw_below_drewN | apply below_drew1) | exact HB.out)⟩⟩
   case round =>
    clear H'
    (try clear c2); (try clear c2b0); (try clear p2); (try clear c4)
    obtain ⟨x4_1, rfl, HA, HK1, HO_3, HB⟩ := hrel
    cases gk with
    | zero => exact absurd HA.out (by simp [incipitref1_Map.l0])
    | succ k1 =>
     have H := HA.out
     clear HA
     simp only [incipitref1_Map.l0] at H
     by_cases c5 : x4_1 < (t255.length : Int)
     · rw [if_pos c5] at H
       have c5b0 : decide (x4_1 < (t255.length : Int)) = true := decide_eq_true c5
       clear c5
       by_cases c6 : 0 ≤ x4_1
       · rw [if_pos c6] at H
         have c6b0 : decide (0 ≤ x4_1) = true := decide_eq_true c6
         clear c6
         replace H := Option.bind_eq_some_iff.mp H
         obtain ⟨t259, A70, H⟩ := H
         replace H : (if 0 < (t259.length : Int) then ((incipitref1_number.f k1 (rdOf ByteArray.empty t259 0) 16).bind fun t263 => (if t263 = a0 then (incipitref1_Map.l1 k1 t259 ([] : List Int) 1) else (incipitref1_Map.l0 k1 a0 t255 (wrap64 (x4_1 + 1))))) else (none)) = some r := H
         have A7 := Aside0.mk A70
         clear A70
         by_cases c8 : 0 < (t259.length : Int)
         · rw [if_pos c8] at H
           have c8b0 : decide (0 < (t259.length : Int)) = true := decide_eq_true c8
           have c8b1 : decide (0 < t259.length) = true := decide_eq_true (by omega)
           clear c8
           replace H := Option.bind_eq_some_iff.mp H
           obtain ⟨t263, A90, H⟩ := H
           replace H : (if t263 = a0 then (incipitref1_Map.l1 k1 t259 ([] : List Int) 1) else (incipitref1_Map.l0 k1 a0 t255 (wrap64 (x4_1 + 1)))) = some r := H
           have A9 := Aside0.mk A90
           clear A90
           by_cases c10 : t263 = a0
           · rw [if_pos c10] at H
             have c10b0 : (t263 == a0) = true := beq_iff_eq.mpr c10
             have c10b1 : (t263 != a0) = false := bne_eq_false_iff_eq.mpr c10
             clear c10
             have H' := Aside0.mk H
             clear H
             obtain ⟨Ao11, co11, eo11⟩ := Kd.R_slice HO_3.out
             subst eo11
             have p258 : 0 ≤ (x4_1 : Int) := of_decide_eq_true (by first | (with_reducible assumption) | assumption)
             have q258 : x4_1 < (t255.length : Int) := of_decide_eq_true (by first | (with_reducible assumption) | assumption)
             obtain ⟨ad258, e258, hx258_0⟩ := Kd.at_string (Kd.R_reads' HO_3.out).2.2 x4_1 p258 q258
             cases e258
             replace p258 := eq_true p258
             replace q258 := eq_true q258
             go_wp2_with (first | ((with_reducible refine gate_callee (f := 46) rfl ?_); refine goesL_ (some 21) rfl rfl Try.func46 (by kernel_rfl) rfl #[.string (rdOf ByteArray.empty t255 x4_1)] rfl (by (try simp only [List.map_toArray, List.map_cons, List.map_nil]); first | done | rfl | (simp only [List.length_drop, List.length_take]; rfl)) ?_; (with_reducible refine (incipitref1_words.calls k1 (rdOf ByteArray.empty t255 x4_1) t259 _ A7.out).mono ?_); rintro e w12 ⟨v260, rfl, ho0, hb⟩; refine ⟨_, rfl, ?_⟩; have n0_ := Aside0.mk (Kd.R_elder' (by (with_reducible repeat (first | apply Kd.R_alloc | apply Kd.R_drewN | apply Kd.R_drew)); exact HO_3.out) (Kd.R_base ho0) hb); have n1_ := Aside0.mk (Kd.R_lower (Kd.R_new' ho0 (Kd.R_lt (by (with_reducible repeat (first | apply Kd.R_alloc | apply Kd.R_drewN | apply Kd.R_drew)); exact HO_3.out))) (below_size (by repeat (first | (with_reducible first | exact HB.out | apply below_alloc | apply pw_below_drewN | apply below_drew1) | exact HB.out)))); have n2_ := Aside0.mk (below_step (by repeat (first | (with_reducible first | exact HB.out | apply below_alloc | apply pw_below_drewN | apply below_drew1) | exact HB.out)) hb); clear HO_3; clear HB; have HO_3 := n0_; have HO261 := n1_; have HB := n2_; clear n0_ n1_ n2_; (try clear hb); (try clear hb2); (try clear hk); (try clear hi); (try clear ho0); obtain ⟨Ao13, co13, eo13⟩ := Kd.R_slice HO261.out; subst eo13; have p262 : 0 ≤ (0 : Int) := (by omega); have q262 : 0 < (t259.length : Int) := of_decide_eq_true (by first | (with_reducible assumption) | assumption); obtain ⟨ad262, e262, hx262_0⟩ := Kd.at_string (Kd.R_reads' HO261.out).2.2 0 p262 q262; cases e262; have qi262 : (0 < t259.length) = True := eq_true (by omega); (try rw [show ((0 : Int)).toNat = 0 from rfl] at hx262_0); (try rw [Addr.add_zero'] at hx262_0); replace p262 := eq_true p262; replace q262 := eq_true q262) | ((with_reducible refine gate_callee (f := 47) rfl ?_); refine goesL_ (some 25) rfl rfl Try.func47 (by kernel_rfl) rfl #[.string (rdOf ByteArray.empty t259 0), .int .i64 16] rfl (by (try simp only [List.map_toArray, List.map_cons, List.map_nil]); first | done | rfl | (simp only [List.length_drop, List.length_take]; rfl)) ?_; (with_reducible refine (incipitref1_number.calls k1 (rdOf ByteArray.empty t259 0) 16 t263 _ A9.out).mono ?_); rintro e w' ⟨rfl, ⟨nd, rfl⟩⟩; refine ⟨_, rfl, ?_⟩))
             try simp only [Act.put, List.setIfInBounds_toArray, List.set_cons_succ, List.set_cons_zero]
             go_loopg [6, 7] k1 (fun kq v6 v7 w' => ∃ (x6_2 : List Int) (x7_2 : Int), v7 = .int .i64 x7_2 ∧ Aside0 (incipitref1_Map.l1 kq t259 x6_2 x7_2 = some r) ∧ Aside0 (kq ≤ k1) ∧ Aside0 (Kd.R Kd.string 9 w' w.heap.size (fun _ => True) (.slice (some ad262) t259.length co13) t259) ∧ Aside0 (Kd.R (Kd.int .i64) 3 w' w.heap.size (fun _ => True) v6 x6_2) ∧ Aside0 (Below w.heap.size w w'))
             case atStart => exact ⟨(([] : List Int)), (1), (by first | rfl | (simp; done) | (simp [*]; done)), H', ⟨Nat.le_refl _⟩, ⟨by (with_reducible repeat (first | apply Kd.R_alloc | apply Kd.R_drewN | apply Kd.R_drew)); exact Kd.R_mono HO261.out (fun _ hk => trivial)⟩, ⟨by first | exact Kd.R_nil _ _ _ _ _ | exact Kd.N_nil _ _ _ _ _ | exact Kd.V_nil _ _ _ _ _ | exact Kd.Q_nil _ _ _ _ _ | exact Kd.S_nil _ _ _ _ _⟩, ⟨by repeat (first | (with_reducible first | exact HB.out | apply below_alloc | apply pw_below_drewN | apply below_drew1) | exact HB.out)⟩⟩
             case round =>
              clear H'
              (try clear c1); (try clear c2); (try clear c2b0); (try clear p2); (try clear q2); (try clear hx2); (try clear qi2); (try clear c4); (try clear c5); (try clear c5b0); (try clear c6); (try clear c6b0); (try clear p6); (try clear c8); (try clear c8b0); (try clear c8b1); (try clear c10); (try clear c10b0); (try clear c10b1); (try clear hx258_0); (try clear hx262_0); (try clear p2); (try clear p258); (try clear p262); (try clear q258); (try clear q262)
              obtain ⟨x6_2, x7_2, rfl, HA, HK2, HO_5, HO_6, HB⟩ := hrel
              cases gk with
              | zero => exact absurd HA.out (by simp [incipitref1_Map.l1])
              | succ k2 =>
               have H := HA.out
               clear HA
               simp only [incipitref1_Map.l1] at H
               by_cases c14 : x7_2 < (t259.length : Int)
               · rw [if_pos c14] at H
                 have c14b0 : decide (x7_2 < (t259.length : Int)) = true := decide_eq_true c14
                 clear c14
                 by_cases c15 : 0 ≤ x7_2
                 · rw [if_pos c15] at H
                   have c15b0 : decide (0 ≤ x7_2) = true := decide_eq_true c15
                   clear c15
                   replace H := Option.bind_eq_some_iff.mp H
                   obtain ⟨t265, A160, H⟩ := H
                   replace H : (if x6_2.length < 17592186044416 then (incipitref1_Map.l1 k2 t259 (x6_2 ++ [t265]) (wrap64 (x7_2 + 1))) else (none)) = some r := H
                   have A16 := Aside0.mk A160
                   clear A160
                   by_cases c17 : x6_2.length < 17592186044416
                   · rw [if_pos c17] at H
                     have LMc17 := Aside0.mk c17
                     clear c17
                     obtain ⟨y266, hy266⟩ : ∃ y_ : List Int, y_ = (x6_2 ++ [t265]) := ⟨_, rfl⟩
                     replace H : (incipitref1_Map.l1 k2 t259 y266 (wrap64 (x7_2 + 1))) = some r := by first | (rw [hy266]; with_reducible exact H) | (have H2_ := (Option.bind_some _ _).symm.trans H; rw [hy266]; with_reducible exact H2_) | (have H2_ := (Option.bind_some _ _).symm.trans H; with_reducible exact H2_) | with_reducible exact H | (rw [hy266]; exact H) | exact H
                     have Ny266 := Aside0.mk hy266
                     clear hy266
                     have H' := Aside0.mk H
                     clear H
                     have p264 : 0 ≤ (x7_2 : Int) := of_decide_eq_true (by first | (with_reducible assumption) | assumption)
                     have q264 : x7_2 < (t259.length : Int) := of_decide_eq_true (by first | (with_reducible assumption) | assumption)
                     obtain ⟨ad264, e264, hx264_0⟩ := Kd.at_string (Kd.R_reads' HO_5.out).2.2 x7_2 p264 q264
                     obtain rfl : ad262 = ad264 := (by injection e264)
                     replace p264 := eq_true p264
                     replace q264 := eq_true q264
                     go_wp2_with (first | ((with_reducible refine gate_callee (f := 47) rfl ?_); refine goesL_ (some 39) rfl rfl Try.func47 (by kernel_rfl) rfl #[.string (rdOf ByteArray.empty t259 x7_2), .int .i64 16] rfl (by (try simp only [List.map_toArray, List.map_cons, List.map_nil]); first | done | rfl | (simp only [List.length_drop, List.length_take]; rfl)) ?_; (with_reducible refine (incipitref1_number.calls k2 (rdOf ByteArray.empty t259 x7_2) 16 t265 _ A16.out).mono ?_); rintro e w' ⟨rfl, ⟨nd, rfl⟩⟩; refine ⟨_, rfl, ?_⟩) | ((with_reducible refine gate_builtin (b := .append) (xs := #[.tmp 34, .tmp 40]) rfl ?_); at_builtin; refine Kd.R_append (Kd.int .i64) (w0 := w) w.heap.size rfl (.tmp 34) (.tmp 40) 22 3 (.int .i64 0) 8 rfl Try.underlying22 info3 rfl (by decide) (by omega) u6 x6_2 t265 [.int .i64 t265] (fun _ => True) (fun _ => False) rfl rfl ?aP (fun _ hk => hk.elim) ?aF ?aO ?aB ?aS ?aL ?_; (case aP => exact rfl); (case aB => exact (by repeat (first | (with_reducible first | exact HB.out | apply below_alloc | apply pw_below_drewN | apply below_drew1) | exact HB.out))); (case aF => exact (fun _ _ => trivial)); (case aO => exact (by (with_reducible repeat (first | apply Kd.R_alloc | apply Kd.R_drewN | apply Kd.R_drew)); exact HO_6.out)); (case aS => exact (below_size (by repeat (first | (with_reducible first | exact HB.out | apply below_alloc | apply pw_below_drewN | apply below_drew1) | exact HB.out)))); (case aL => have := LMc17.out; omega); intro v267 w18 ho hb hg hat; rw [← Ny266.out] at ho; have n0_ := Aside0.mk (Kd.R_over' (by (with_reducible repeat (first | apply Kd.R_alloc | apply Kd.R_drewN | apply Kd.R_drew)); exact HO_5.out) (Kd.R_typed (by (with_reducible repeat (first | apply Kd.R_alloc | apply Kd.R_drewN | apply Kd.R_drew)); exact HO_6.out)) (by decide) hg); have n1_ := Aside0.mk (hb); have n2_ := Aside0.mk (ho); clear HO_5; clear HB; clear HO_6; have HO_5 := n0_; have HB := n1_; have HO268 := n2_; clear n0_ n1_ n2_; clear ho hb hg hat))
                     go_roundg k2
                     case measure => have := HK1.out; have := HK2.out; omega
                     case rel => exact ⟨(y266), (wrap64 (x7_2 + 1)), (by first | rfl | (simp; done) | (simp [*]; done)), H', ⟨by have := HK1.out; have := HK2.out; omega⟩, ⟨by (with_reducible repeat (first | apply Kd.R_alloc | apply Kd.R_drewN | apply Kd.R_drew)); exact HO_5.out⟩, ⟨by (with_reducible repeat (first | apply Kd.R_alloc | apply Kd.R_drewN | apply Kd.R_drew)); exact HO268.out⟩, ⟨by repeat (first | (with_reducible first | exact HB.out | apply below_alloc | apply pw_below_drewN | apply below_drew1) | exact HB.out)⟩⟩
                   · rw [if_neg c17] at H
                     exact absurd H (by simp)
                 · rw [if_neg c15] at H
                   exact absurd H (by simp)
               · rw [if_neg c14] at H
                 have c14b0 : decide (x7_2 < (t259.length : Int)) = false := decide_eq_false c14
                 clear c14
                 obtain rfl := Option.some.inj H
                 go_wp2
                 go_ret
                 exact ⟨_, by first | rfl | (simp [errW_none, errW_some] <;> rfl) | (simp [*, errW_none, errW_some] <;> rfl), by (with_reducible repeat (first | apply Kd.R_alloc | apply Kd.R_drewN | apply Kd.R_drew)); exact HO_6.out, by repeat (first | (with_reducible first | exact HB.out | apply below_alloc | apply pw_below_drewN | apply below_drew1) | exact HB.out)⟩
           · rw [if_neg c10] at H
             have c10b0 : (t263 == a0) = false := beq_eq_false_iff_ne.mpr c10
             have c10b1 : (t263 != a0) = true := bne_iff_ne.mpr c10
             have H' := Aside0.mk H
             clear H
             obtain ⟨Ao19, co19, eo19⟩ := Kd.R_slice HO_3.out
             subst eo19
             have p258 : 0 ≤ (x4_1 : Int) := of_decide_eq_true (by first | (with_reducible assumption) | assumption)
             have q258 : x4_1 < (t255.length : Int) := of_decide_eq_true (by first | (with_reducible assumption) | assumption)
             obtain ⟨ad258, e258, hx258_0⟩ := Kd.at_string (Kd.R_reads' HO_3.out).2.2 x4_1 p258 q258
             cases e258
             replace p258 := eq_true p258
             replace q258 := eq_true q258
             go_wp2_with (first | ((with_reducible refine gate_callee (f := 46) rfl ?_); refine goesL_ (some 21) rfl rfl Try.func46 (by kernel_rfl) rfl #[.string (rdOf ByteArray.empty t255 x4_1)] rfl (by (try simp only [List.map_toArray, List.map_cons, List.map_nil]); first | done | rfl | (simp only [List.length_drop, List.length_take]; rfl)) ?_; (with_reducible refine (incipitref1_words.calls k1 (rdOf ByteArray.empty t255 x4_1) t259 _ A7.out).mono ?_); rintro e w20 ⟨v260, rfl, ho0, hb⟩; refine ⟨_, rfl, ?_⟩; have n0_ := Aside0.mk (Kd.R_elder' (by (with_reducible repeat (first | apply Kd.R_alloc | apply Kd.R_drewN | apply Kd.R_drew)); exact HO_3.out) (Kd.R_base ho0) hb); have n1_ := Aside0.mk (Kd.R_lower (Kd.R_new' ho0 (Kd.R_lt (by (with_reducible repeat (first | apply Kd.R_alloc | apply Kd.R_drewN | apply Kd.R_drew)); exact HO_3.out))) (below_size (by repeat (first | (with_reducible first | exact HB.out | apply below_alloc | apply pw_below_drewN | apply below_drew1) | exact HB.out)))); have n2_ := Aside0.mk (below_step (by repeat (first | (with_reducible first | exact HB.out | apply below_alloc | apply pw_below_drewN | apply below_drew1) | exact HB.out)) hb); clear HO_3; clear HB; have HO_3 := n0_; have HO261 := n1_; have HB := n2_; clear n0_ n1_ n2_; (try clear hb); (try clear hb2); (try clear hk); (try clear hi); (try clear ho0); obtain ⟨Ao21, co21, eo21⟩ := Kd.R_slice HO261.out; subst eo21; have p262 : 0 ≤ (0 : Int) := (by omega); have q262 : 0 < (t259.length : Int) := of_decide_eq_true (by first | (with_reducible assumption) | assumption); obtain ⟨ad262, e262, hx262_0⟩ := Kd.at_string (Kd.R_reads' HO261.out).2.2 0 p262 q262; cases e262; have qi262 : (0 < t259.length) = True := eq_true (by omega); (try rw [show ((0 : Int)).toNat = 0 from rfl] at hx262_0); (try rw [Addr.add_zero'] at hx262_0); replace p262 := eq_true p262; replace q262 := eq_true q262) | ((with_reducible refine gate_callee (f := 47) rfl ?_); refine goesL_ (some 25) rfl rfl Try.func47 (by kernel_rfl) rfl #[.string (rdOf ByteArray.empty t259 0), .int .i64 16] rfl (by (try simp only [List.map_toArray, List.map_cons, List.map_nil]); first | done | rfl | (simp only [List.length_drop, List.length_take]; rfl)) ?_; (with_reducible refine (incipitref1_number.calls k1 (rdOf ByteArray.empty t259 0) 16 t263 _ A9.out).mono ?_); rintro e w' ⟨rfl, ⟨nd, rfl⟩⟩; refine ⟨_, rfl, ?_⟩))
             go_roundg k1
             case measure => have := HK1.out; omega
             case rel => exact ⟨(wrap64 (x4_1 + 1)), (by first | rfl | (simp; done) | (simp [*]; done)), H', ⟨by have := HK1.out; omega⟩, ⟨by (with_reducible repeat (first | apply Kd.R_alloc | apply Kd.R_drewN | apply Kd.R_drew)); exact Kd.R_mono HO_3.out (fun _ hk => trivial)⟩, ⟨by repeat (first | (with_reducible first | exact HB.out | apply below_alloc | apply pw_below_drewN | apply below_drew1) | exact HB.out)⟩⟩
         · rw [if_neg c8] at H
           exact absurd H (by simp)
       · rw [if_neg c6] at H
         exact absurd H (by simp)
     · rw [if_neg c5] at H
       have c5b0 : decide (x4_1 < (t255.length : Int)) = false := decide_eq_false c5
       clear c5
       obtain rfl := Option.some.inj H
       obtain ⟨Ao22, co22, eo22⟩ := Kd.R_slice HO_3.out
       subst eo22
       go_wp2
       go_ret
       exact ⟨_, by first | rfl | (simp [errW_none, errW_some] <;> rfl) | (simp [*, errW_none, errW_some] <;> rfl), by first | exact Kd.R_nil _ _ _ _ _ | exact Kd.N_nil _ _ _ _ _ | exact Kd.V_nil _ _ _ _ _ | exact Kd.Q_nil _ _ _ _ _ | exact Kd.S_nil _ _ _ _ _, by repeat (first | (with_reducible first | exact HB.out | apply below_alloc | apply pw_below_drewN | apply below_drew1) | exact HB.out)⟩

/-! ### incipitref1_Apart: function 26 -/
theorem ra_w64 {x : Int} (h0 : -9223372036854775808 ≤ x) (h1 : x < 9223372036854775808) : wrap64 x = x := by
 unfold wrap64; omega

/-- The ra_letters of a syllable. -/
def ra_letters (c : Int) : List Int :=
 if c < 44032 ∨ 55204 ≤ c then [] else
  if (c - 44032) % 28 = 0 then [4352 + (c - 44032) / 588, 4449 + (c - 44032) / 28 % 21]
  else [4352 + (c - 44032) / 588, 4449 + (c - 44032) / 28 % 21, 4519 + (c - 44032) % 28]

theorem ra_letters_of (c x y : Int) (h1 : 44032 ≤ c) (h2 : c < 55204) (hy : 0 ≤ y) (hy' : y < 21) (hd : x * 21 + y = (c - 44032) / 28) :
 ra_letters c = if c - 44032 - (x * 21 + y) * 28 = 0 then [4352 + x, 4449 + y] else [4352 + x, 4449 + y, 4519 + (c - 44032 - (x * 21 + y) * 28)] := by
 unfold ra_letters
 rw [if_neg (by omega)]
 have a1 : (c - 44032) / 588 = x := by omega
 have a2 : (c - 44032) / 28 % 21 = y := by omega
 have a3 : (c - 44032) % 28 = c - 44032 - (x * 21 + y) * 28 := by omega
 rw [a1, a2, a3]

/-- One place of the two loops. -/
theorem ra_one (c : Int) (h1 : 44032 ≤ c) (h2 : c < 55204) (k : Nat) (x y : Int) (hx : 0 ≤ x) (hx' : x < 19) (hy : 0 ≤ y) (hy' : y < 21) (hd : x * 21 + y ≤ (c - 44032) / 28) :
 incipitref1_Split.l1 (k + 2) c x y = if x * 21 + y = (c - 44032) / 28 then some (ra_letters c) else incipitref1_Split.l1 k c x (y + 1) := by
 rw [incipitref1_Split.l1, if_pos (by omega), ra_w64 (x := c - 44032) (by omega) (by omega), ra_w64 (x := x * 21) (by omega) (by omega), ra_w64 (x := x * 21 + y) (by omega) (by omega), ra_w64 (x := (x * 21 + y) * 28) (by omega) (by omega),
  ra_w64 (x := c - 44032 - (x * 21 + y) * 28) (by omega) (by omega), if_pos (by omega)]
 by_cases e : x * 21 + y = (c - 44032) / 28
 · rw [if_pos e, decide_eq_true (show c - 44032 - (x * 21 + y) * 28 < 28 by omega), incipitref1_Split.j3, if_pos (Eq.refl true), ra_letters_of c x y h1 h2 hy hy' e, ra_w64 (x := 4352 + x) (by omega) (by omega), ra_w64 (x := 4449 + y) (by omega) (by omega),
    ra_w64 (x := 4519 + (c - 44032 - (x * 21 + y) * 28)) (by omega) (by omega)]
   split <;> rfl
 · rw [if_neg e, decide_eq_false (show ¬ c - 44032 - (x * 21 + y) * 28 < 28 by omega), incipitref1_Split.j3, if_neg Bool.false_ne_true, ra_w64 (x := y + 1) (by omega) (by omega)]

theorem ra_l1 (c : Int) (h1 : 44032 ≤ c) (h2 : c < 55204) (d : Nat) : ∀ (k : Nat) (x y : Int), 0 ≤ x → x < 19 → 0 ≤ y → y ≤ 21 → (x * 21 + y) + d = (c - 44032) / 28 → 4 * d + 4 ≤ k →
 incipitref1_Split.l1 k c x y = some (ra_letters c) := by
 induction d with
 | zero =>
  intro k x y hx hx' hy hy' hd hk
  by_cases hy2 : y = 21
  · obtain ⟨k, rfl⟩ : ∃ m, k = m + 4 := ⟨k - 4, by omega⟩
    rw [incipitref1_Split.l1, if_neg (by omega), incipitref1_Split.l0, ra_w64 (by omega) (by omega), if_pos (by omega), ra_one c h1 h2 k (x + 1) 0 (by omega) (by omega) (by omega) (by omega) (by omega), if_pos (by omega)]
  · obtain ⟨k, rfl⟩ : ∃ m, k = m + 2 := ⟨k - 2, by omega⟩
    rw [ra_one c h1 h2 k x y hx hx' hy (by omega) (by omega), if_pos (by omega)]
 | succ d ih =>
  intro k x y hx hx' hy hy' hd hk
  by_cases hy2 : y = 21
  · obtain ⟨k, rfl⟩ : ∃ m, k = m + 4 := ⟨k - 4, by omega⟩
    rw [incipitref1_Split.l1, if_neg (by omega), incipitref1_Split.l0, ra_w64 (by omega) (by omega), if_pos (by omega), ra_one c h1 h2 k (x + 1) 0 (by omega) (by omega) (by omega) (by omega) (by omega), if_neg (by omega)]
    exact ih k (x + 1) (0 + 1) (by omega) (by omega) (by omega) (by omega) (by omega) (by omega)
  · obtain ⟨k, rfl⟩ : ∃ m, k = m + 2 := ⟨k - 2, by omega⟩
    rw [ra_one c h1 h2 k x y hx hx' hy (by omega) (by omega), if_neg (by omega)]
    exact ih k x (y + 1) (by omega) (by omega) (by omega) (by omega) (by omega) (by omega)

theorem ra_f (k : Nat) (c : Int) (hk : 2000 ≤ k) : incipitref1_Split.f k c = some (ra_letters c) := by
 obtain ⟨k, rfl⟩ : ∃ m, k = m + 2 := ⟨k - 2, by omega⟩
 unfold incipitref1_Split.f
 by_cases h1 : c < 44032
 · rw [if_pos h1]; unfold ra_letters; rw [if_pos (Or.inl h1)]; rfl
 · rw [if_neg h1]
   by_cases h2 : 55204 ≤ c
   · have : decide (c > 55203) = true := decide_eq_true (by omega)
     rw [this]; unfold ra_letters; rw [if_pos (Or.inr h2)]; rfl
   · have : decide (c > 55203) = false := decide_eq_false (by omega)
     rw [this]
     simp only [incipitref1_Split.j0, incipitref1_Split.l0, Bool.false_eq_true, if_false]
     rw [if_pos (by omega)]
     exact ra_l1 c (by omega) (by omega) ((c - 44032) / 28).toNat k 0 0 (by omega) (by omega) (by omega) (by omega) (by omega) (by omega)


theorem ra_up {α : Type} {f : Nat → Option α} (h : ∀ k, LeO (f k) (f (k + 1))) (k : Nat) : ∀ d, LeO (f k) (f (k + d))
 | 0 => LeO.refl _
 | d + 1 => fun r hr => h (k + d) r (ra_up h k d r hr)
theorem incipitref1_Split.out_ {k : Nat} {a0 : Int} (h : incipitref1_Split.f k a0 = some []) : a0 < 44032 ∨ 55204 ≤ a0 := by
 have h2 := ra_up (incipitref1_Split.mono a0) k 2000 _ h
 rw [ra_f (k + 2000) a0 (by omega)] at h2
 have h3 := Option.some.inj h2
 unfold ra_letters at h3
 by_cases hc : a0 < 44032 ∨ 55204 ≤ a0
 · exact hc
 · rw [if_neg hc] at h3
   split at h3 <;> cases h3
theorem incipitref1_Split.nil_ (a0 : Int) (w : World) (h : a0 < 44032 ∨ 55204 ≤ a0) : Calls Try.prog 43 #[.int .i64 a0] w fun e w' => e = .returned (.slice none 0 0) ∧ w = w' := by
 by_cases h1 : a0 < 44032
 · have b1 : decide (a0 < 44032) = true := decide_eq_true h1
   clear h h1
   go_enter Try.func43, Try.ntmps43
   go_wp2
   go_ret
   exact ⟨rfl, rfl⟩
 · have b1 : decide (a0 < 44032) = false := decide_eq_false h1
   have b2 : decide (55203 < a0) = true := decide_eq_true (by omega)
   clear h h1
   go_enter Try.func43, Try.ntmps43
   go_wp2
   go_ret
   exact ⟨rfl, rfl⟩
theorem incipitref1_Map.l1_more_ : ∀ (k : Nat) (a : List ByteArray) (l : List Int) (i : Int) (r : List Int), incipitref1_Map.l1 k a l i = some r → l ≠ [] → r ≠ []
 | 0, _, _, _, _, h, _ => by cases h
 | k + 1, a, l, i, r, h, hl => by
  rw [incipitref1_Map.l1] at h
  split at h
  · split at h
    · obtain ⟨x, hx, h2⟩ := Option.bind_eq_some_iff.1 h
      split at h2
      · exact incipitref1_Map.l1_more_ k _ _ _ _ h2 (by simp)
      · cases h2
    · cases h
  · obtain rfl := Option.some.inj h
    exact hl
set_option maxHeartbeats 8000000 in
set_option maxRecDepth 100000 in
theorem incipitref1_Map.nil_ (k : Nat) (a0 : Int) (w : World) (h : incipitref1_Map.f k a0 = some []) :
 Calls Try.prog 44 #[.int .i64 a0] w fun e w' => e = .returned (.slice none 0 0) ∧ Below w.heap.size w w' := by
 have HB := Aside0.mk (Below.refl w.heap.size w)
 have H : (if a0 < 192 then (some ([] : List Int)) else ((incipitref1_lines.f k lit_31b68b).bind fun t248 => (incipitref1_Map.l0 k a0 t248 0))) = some [] := h
 clear h
 by_cases c2 : a0 < 192
 · rw [if_pos c2] at H
   have c2b0 : decide (a0 < 192) = true := decide_eq_true c2
   clear c2
   clear H
   go_enter Try.func44, Try.ntmps44
   rw [← lit_31b68b_eq]
   go_wp2
   go_ret
   exact ⟨rfl, by repeat (first | (with_reducible first | exact HB.out | apply below_alloc | apply pw_below_drewN | apply below_drew1) | exact HB.out)⟩
 · rw [if_neg c2] at H
   have c2b0 : decide (a0 < 192) = false := decide_eq_false c2
   clear c2
   replace H := Option.bind_eq_some_iff.mp H
   obtain ⟨t248, A30, H⟩ := H
   replace H : (incipitref1_Map.l0 k a0 t248 0) = some [] := H
   have A3 := Aside0.mk A30
   clear A30
   have H' := Aside0.mk H
   clear H
   go_enter Try.func44, Try.ntmps44
   rw [← lit_31b68b_eq]
   go_wp2_with (first | ((with_reducible refine gate_callee (f := 45) rfl ?_); refine goesL_ (some 10) rfl rfl Try.func45 (by kernel_rfl) rfl #[.string lit_31b68b] rfl (by (try simp only [List.map_toArray, List.map_cons, List.map_nil]); first | done | rfl | (simp only [List.length_drop, List.length_take]; rfl)) ?_; (with_reducible refine (incipitref1_lines.calls k lit_31b68b t248 _ A3.out).mono ?_); rintro e w4 ⟨v249, rfl, ho0, hb⟩; refine ⟨_, rfl, ?_⟩; have n0_ := Aside0.mk (Kd.R_lower ho0 (below_size (by repeat (first | (with_reducible first | exact HB.out | apply below_alloc | apply pw_below_drewN | apply below_drew1) | exact HB.out)))); have n1_ := Aside0.mk (below_step (by repeat (first | (with_reducible first | exact HB.out | apply below_alloc | apply pw_below_drewN | apply below_drew1) | exact HB.out)) hb); clear HB; have HO250 := n0_; have HB := n1_; clear n0_ n1_; (try clear hb); (try clear hb2); (try clear hk); (try clear hi); (try clear ho0)))
   try simp only [Act.put, List.setIfInBounds_toArray, List.set_cons_succ, List.set_cons_zero]
   go_loopg [4] k (fun kq v4 w' => ∃ (x4_1 : Int), v4 = .int .i64 x4_1 ∧ Aside0 (incipitref1_Map.l0 kq a0 t248 x4_1 = some []) ∧ Aside0 (kq ≤ k) ∧ Aside0 (Kd.R Kd.string 9 w' w.heap.size (fun _ => True) v249 t248) ∧ Aside0 (Below w.heap.size w w'))
   case atStart => exact ⟨(0), (by first | rfl | (simp; done) | (simp [*]; done)), H', ⟨Nat.le_refl _⟩, ⟨by (with_reducible repeat (first | apply Kd.R_alloc | apply Kd.R_drewN | apply Kd.R_drew)); exact HO250.out⟩, ⟨by repeat (first | (with_reducible first | exact HB.out | apply below_alloc | apply pw_below_drewN | apply below_drew1) | exact HB.out)⟩⟩
   case round =>
    clear H'
    (try clear c2); (try clear c2b0); (try clear p2); (try clear c4)
    obtain ⟨x4_1, rfl, HA, HK1, HO_3, HB⟩ := hrel
    cases gk with
    | zero => exact absurd HA.out (by simp [incipitref1_Map.l0])
    | succ k1 =>
     have H := HA.out
     clear HA
     simp only [incipitref1_Map.l0] at H
     by_cases c5 : x4_1 < (t248.length : Int)
     · rw [if_pos c5] at H
       have c5b0 : decide (x4_1 < (t248.length : Int)) = true := decide_eq_true c5
       clear c5
       by_cases c6 : 0 ≤ x4_1
       · rw [if_pos c6] at H
         have c6b0 : decide (0 ≤ x4_1) = true := decide_eq_true c6
         clear c6
         replace H := Option.bind_eq_some_iff.mp H
         obtain ⟨t252, A70, H⟩ := H
         replace H : (if 0 < (t252.length : Int) then ((incipitref1_number.f k1 (rdOf ByteArray.empty t252 0) 16).bind fun t256 => (if t256 = a0 then (incipitref1_Map.l1 k1 t252 ([] : List Int) 1) else (incipitref1_Map.l0 k1 a0 t248 (wrap64 (x4_1 + 1))))) else (none)) = some [] := H
         have A7 := Aside0.mk A70
         clear A70
         by_cases c8 : 0 < (t252.length : Int)
         · rw [if_pos c8] at H
           have c8b0 : decide (0 < (t252.length : Int)) = true := decide_eq_true c8
           have c8b1 : decide (0 < t252.length) = true := decide_eq_true (by omega)
           clear c8
           replace H := Option.bind_eq_some_iff.mp H
           obtain ⟨t256, A90, H⟩ := H
           replace H : (if t256 = a0 then (incipitref1_Map.l1 k1 t252 ([] : List Int) 1) else (incipitref1_Map.l0 k1 a0 t248 (wrap64 (x4_1 + 1)))) = some [] := H
           have A9 := Aside0.mk A90
           clear A90
           by_cases c10 : t256 = a0
           · rw [if_pos c10] at H
             have c10b0 : (t256 == a0) = true := beq_iff_eq.mpr c10
             have c10b1 : (t256 != a0) = false := bne_eq_false_iff_eq.mpr c10
             clear c10
             have H' := Aside0.mk H
             clear H
             obtain ⟨Ao11, co11, eo11⟩ := Kd.R_slice HO_3.out
             subst eo11
             have p251 : 0 ≤ (x4_1 : Int) := of_decide_eq_true (by first | (with_reducible assumption) | assumption)
             have q251 : x4_1 < (t248.length : Int) := of_decide_eq_true (by first | (with_reducible assumption) | assumption)
             obtain ⟨ad251, e251, hx251_0⟩ := Kd.at_string (Kd.R_reads' HO_3.out).2.2 x4_1 p251 q251
             cases e251
             replace p251 := eq_true p251
             replace q251 := eq_true q251
             go_wp2_with (first | ((with_reducible refine gate_callee (f := 46) rfl ?_); refine goesL_ (some 21) rfl rfl Try.func46 (by kernel_rfl) rfl #[.string (rdOf ByteArray.empty t248 x4_1)] rfl (by (try simp only [List.map_toArray, List.map_cons, List.map_nil]); first | done | rfl | (simp only [List.length_drop, List.length_take]; rfl)) ?_; (with_reducible refine (incipitref1_words.calls k1 (rdOf ByteArray.empty t248 x4_1) t252 _ A7.out).mono ?_); rintro e w12 ⟨v253, rfl, ho0, hb⟩; refine ⟨_, rfl, ?_⟩; have n0_ := Aside0.mk (Kd.R_elder' (by (with_reducible repeat (first | apply Kd.R_alloc | apply Kd.R_drewN | apply Kd.R_drew)); exact HO_3.out) (Kd.R_base ho0) hb); have n1_ := Aside0.mk (Kd.R_lower (Kd.R_new' ho0 (Kd.R_lt (by (with_reducible repeat (first | apply Kd.R_alloc | apply Kd.R_drewN | apply Kd.R_drew)); exact HO_3.out))) (below_size (by repeat (first | (with_reducible first | exact HB.out | apply below_alloc | apply pw_below_drewN | apply below_drew1) | exact HB.out)))); have n2_ := Aside0.mk (below_step (by repeat (first | (with_reducible first | exact HB.out | apply below_alloc | apply pw_below_drewN | apply below_drew1) | exact HB.out)) hb); clear HO_3; clear HB; have HO_3 := n0_; have HO254 := n1_; have HB := n2_; clear n0_ n1_ n2_; (try clear hb); (try clear hb2); (try clear hk); (try clear hi); (try clear ho0); obtain ⟨Ao13, co13, eo13⟩ := Kd.R_slice HO254.out; subst eo13; have p255 : 0 ≤ (0 : Int) := (by omega); have q255 : 0 < (t252.length : Int) := of_decide_eq_true (by first | (with_reducible assumption) | assumption); obtain ⟨ad255, e255, hx255_0⟩ := Kd.at_string (Kd.R_reads' HO254.out).2.2 0 p255 q255; cases e255; have qi255 : (0 < t252.length) = True := eq_true (by omega); (try rw [show ((0 : Int)).toNat = 0 from rfl] at hx255_0); (try rw [Addr.add_zero'] at hx255_0); replace p255 := eq_true p255; replace q255 := eq_true q255) | ((with_reducible refine gate_callee (f := 47) rfl ?_); refine goesL_ (some 25) rfl rfl Try.func47 (by kernel_rfl) rfl #[.string (rdOf ByteArray.empty t252 0), .int .i64 16] rfl (by (try simp only [List.map_toArray, List.map_cons, List.map_nil]); first | done | rfl | (simp only [List.length_drop, List.length_take]; rfl)) ?_; (with_reducible refine (incipitref1_number.calls k1 (rdOf ByteArray.empty t252 0) 16 t256 _ A9.out).mono ?_); rintro e w' ⟨rfl, ⟨nd, rfl⟩⟩; refine ⟨_, rfl, ?_⟩))
             try simp only [Act.put, List.setIfInBounds_toArray, List.set_cons_succ, List.set_cons_zero]
             go_loopg [6, 7] k1 (fun kq v6 v7 w' => ∃ (x7_2 : Int), v6 = .slice none 0 0 ∧ v7 = .int .i64 x7_2 ∧ Aside0 (incipitref1_Map.l1 kq t252 [] x7_2 = some []) ∧ Aside0 (kq ≤ k1) ∧ Aside0 (Kd.R Kd.string 9 w' w.heap.size (fun _ => True) (.slice (some ad255) t252.length co13) t252) ∧ Aside0 (Below w.heap.size w w'))
             case atStart => exact ⟨(1), rfl, (by first | rfl | (simp; done) | (simp [*]; done)), H', ⟨Nat.le_refl _⟩, ⟨by (with_reducible repeat (first | apply Kd.R_alloc | apply Kd.R_drewN | apply Kd.R_drew)); exact Kd.R_mono HO254.out (fun _ hk => trivial)⟩, ⟨by repeat (first | (with_reducible first | exact HB.out | apply below_alloc | apply pw_below_drewN | apply below_drew1) | exact HB.out)⟩⟩
             case round =>
              clear H'
              (try clear c1); (try clear c2); (try clear c2b0); (try clear p2); (try clear q2); (try clear hx2); (try clear qi2); (try clear c4); (try clear c5); (try clear c5b0); (try clear c6); (try clear c6b0); (try clear p6); (try clear c8); (try clear c8b0); (try clear c8b1); (try clear c10); (try clear c10b0); (try clear c10b1); (try clear hx251_0); (try clear hx255_0); (try clear p2); (try clear p251); (try clear p255); (try clear q251); (try clear q255)
              obtain ⟨x7_2, rfl, rfl, HA, HK2, HO_5, HB⟩ := hrel
              cases gk with
              | zero => exact absurd HA.out (by simp [incipitref1_Map.l1])
              | succ k2 =>
               have H := HA.out
               clear HA
               simp only [incipitref1_Map.l1] at H
               by_cases c14 : x7_2 < (t252.length : Int)
               · rw [if_pos c14] at H
                 have c14b0 : decide (x7_2 < (t252.length : Int)) = true := decide_eq_true c14
                 clear c14
                 by_cases c15 : 0 ≤ x7_2
                 · rw [if_pos c15] at H
                   have c15b0 : decide (0 ≤ x7_2) = true := decide_eq_true c15
                   clear c15
                   replace H := Option.bind_eq_some_iff.mp H
                   obtain ⟨t258, A160, H⟩ := H
                   replace H : (if ([] : List Int).length < 17592186044416 then (incipitref1_Map.l1 k2 t252 (([] : List Int) ++ [t258]) (wrap64 (x7_2 + 1))) else (none)) = some [] := H
                   have A16 := Aside0.mk A160
                   clear A160
                   exfalso
                   split at H
                   · exact incipitref1_Map.l1_more_ _ _ _ _ _ H (by simp) rfl
                   · cases H
                 · rw [if_neg c15] at H
                   exact absurd H (by simp)
               · rw [if_neg c14] at H
                 have c14b0 : decide (x7_2 < (t252.length : Int)) = false := decide_eq_false c14
                 clear c14
                 clear H
                 go_wp2
                 go_ret
                 exact ⟨rfl, by repeat (first | (with_reducible first | exact HB.out | apply below_alloc | apply pw_below_drewN | apply below_drew1) | exact HB.out)⟩
           · rw [if_neg c10] at H
             have c10b0 : (t256 == a0) = false := beq_eq_false_iff_ne.mpr c10
             have c10b1 : (t256 != a0) = true := bne_iff_ne.mpr c10
             have H' := Aside0.mk H
             clear H
             obtain ⟨Ao19, co19, eo19⟩ := Kd.R_slice HO_3.out
             subst eo19
             have p251 : 0 ≤ (x4_1 : Int) := of_decide_eq_true (by first | (with_reducible assumption) | assumption)
             have q251 : x4_1 < (t248.length : Int) := of_decide_eq_true (by first | (with_reducible assumption) | assumption)
             obtain ⟨ad251, e251, hx251_0⟩ := Kd.at_string (Kd.R_reads' HO_3.out).2.2 x4_1 p251 q251
             cases e251
             replace p251 := eq_true p251
             replace q251 := eq_true q251
             go_wp2_with (first | ((with_reducible refine gate_callee (f := 46) rfl ?_); refine goesL_ (some 21) rfl rfl Try.func46 (by kernel_rfl) rfl #[.string (rdOf ByteArray.empty t248 x4_1)] rfl (by (try simp only [List.map_toArray, List.map_cons, List.map_nil]); first | done | rfl | (simp only [List.length_drop, List.length_take]; rfl)) ?_; (with_reducible refine (incipitref1_words.calls k1 (rdOf ByteArray.empty t248 x4_1) t252 _ A7.out).mono ?_); rintro e w20 ⟨v253, rfl, ho0, hb⟩; refine ⟨_, rfl, ?_⟩; have n0_ := Aside0.mk (Kd.R_elder' (by (with_reducible repeat (first | apply Kd.R_alloc | apply Kd.R_drewN | apply Kd.R_drew)); exact HO_3.out) (Kd.R_base ho0) hb); have n1_ := Aside0.mk (Kd.R_lower (Kd.R_new' ho0 (Kd.R_lt (by (with_reducible repeat (first | apply Kd.R_alloc | apply Kd.R_drewN | apply Kd.R_drew)); exact HO_3.out))) (below_size (by repeat (first | (with_reducible first | exact HB.out | apply below_alloc | apply pw_below_drewN | apply below_drew1) | exact HB.out)))); have n2_ := Aside0.mk (below_step (by repeat (first | (with_reducible first | exact HB.out | apply below_alloc | apply pw_below_drewN | apply below_drew1) | exact HB.out)) hb); clear HO_3; clear HB; have HO_3 := n0_; have HO254 := n1_; have HB := n2_; clear n0_ n1_ n2_; (try clear hb); (try clear hb2); (try clear hk); (try clear hi); (try clear ho0); obtain ⟨Ao21, co21, eo21⟩ := Kd.R_slice HO254.out; subst eo21; have p255 : 0 ≤ (0 : Int) := (by omega); have q255 : 0 < (t252.length : Int) := of_decide_eq_true (by first | (with_reducible assumption) | assumption); obtain ⟨ad255, e255, hx255_0⟩ := Kd.at_string (Kd.R_reads' HO254.out).2.2 0 p255 q255; cases e255; have qi255 : (0 < t252.length) = True := eq_true (by omega); (try rw [show ((0 : Int)).toNat = 0 from rfl] at hx255_0); (try rw [Addr.add_zero'] at hx255_0); replace p255 := eq_true p255; replace q255 := eq_true q255) | ((with_reducible refine gate_callee (f := 47) rfl ?_); refine goesL_ (some 25) rfl rfl Try.func47 (by kernel_rfl) rfl #[.string (rdOf ByteArray.empty t252 0), .int .i64 16] rfl (by (try simp only [List.map_toArray, List.map_cons, List.map_nil]); first | done | rfl | (simp only [List.length_drop, List.length_take]; rfl)) ?_; (with_reducible refine (incipitref1_number.calls k1 (rdOf ByteArray.empty t252 0) 16 t256 _ A9.out).mono ?_); rintro e w' ⟨rfl, ⟨nd, rfl⟩⟩; refine ⟨_, rfl, ?_⟩))
             go_roundg k1
             case measure => have := HK1.out; omega
             case rel => exact ⟨(wrap64 (x4_1 + 1)), (by first | rfl | (simp; done) | (simp [*]; done)), H', ⟨by have := HK1.out; omega⟩, ⟨by (with_reducible repeat (first | apply Kd.R_alloc | apply Kd.R_drewN | apply Kd.R_drew)); exact Kd.R_mono HO_3.out (fun _ hk => trivial)⟩, ⟨by repeat (first | (with_reducible first | exact HB.out | apply below_alloc | apply pw_below_drewN | apply below_drew1) | exact HB.out)⟩⟩
         · rw [if_neg c8] at H
           exact absurd H (by simp)
       · rw [if_neg c6] at H
         exact absurd H (by simp)
     · rw [if_neg c5] at H
       have c5b0 : decide (x4_1 < (t248.length : Int)) = false := decide_eq_false c5
       clear c5
       clear H
       obtain ⟨Ao22, co22, eo22⟩ := Kd.R_slice HO_3.out
       subst eo22
       go_wp2
       go_ret
       exact ⟨rfl, by repeat (first | (with_reducible first | exact HB.out | apply below_alloc | apply pw_below_drewN | apply below_drew1) | exact HB.out)⟩

def incipitref1_Apart.f (k : Nat) (a0 : Int) : Option (List Int) :=
 (incipitref1_Split.f k a0).bind fun l => if l = [] then (incipitref1_Map.f k a0).bind fun m => if m = [] then some [a0] else some m else some l
theorem incipitref1_Apart.mono : ∀ a0 k, LeO (incipitref1_Apart.f k a0) (incipitref1_Apart.f (k + 1) a0) := fun a0 k =>
 LeO.bind (incipitref1_Split.mono a0 k) (fun _ => LeO.ite (LeO.bind (incipitref1_Map.mono a0 k) (fun _ => LeO.refl _)) (LeO.refl _))
theorem ra_some_ {α : Type} {d : Kd α} {e base : Nat} {w : World} {ok : Nat → Prop} {v : Value} {xs : List α} (h : d.R e w base ok v xs) (hx : xs ≠ []) : ∃ ad c, v = .slice (some ad) xs.length c := by
 obtain ⟨g, c, hv, _⟩ := Kd.R_form h (List.length_pos_iff.2 hx)
 exact ⟨_, c, hv⟩
set_option maxHeartbeats 8000000 in
set_option maxRecDepth 100000 in
theorem incipitref1_Apart.calls (k : Nat) (a0 : Int) (r : List Int) (w : World) (h : incipitref1_Apart.f k a0 = some r) :
 Calls Try.prog 26 #[.int .i64 a0] w fun e w' => ∃ v0_ : Value, e = .returned (v0_) ∧ Kd.R (Kd.int .i64) 3 w' w.heap.size (fun _ => True) v0_ r ∧ Below w.heap.size w w' := by
 unfold incipitref1_Apart.f at h
 obtain ⟨l, hl, h⟩ := Option.bind_eq_some_iff.1 h
 have HL := Aside0.mk hl
 clear hl
 have hnn := fun (x : Addr) (n c : Nat) (W : World) => Lib.run_eql_slice_nil (P := Try.prog) W 22 3 (some x) n c 0 0 Try.underlying22
 have hn0 := fun (W : World) => Lib.run_eql_slice_nil (P := Try.prog) W 22 3 none 0 0 0 0 Try.underlying22
 by_cases c1 : l = []
 · subst c1
   rw [if_pos (Eq.refl ([] : List Int))] at h
   have HO := Aside0.mk (incipitref1_Split.out_ HL.out)
   obtain ⟨m, hm, h⟩ := Option.bind_eq_some_iff.1 h
   have HM := Aside0.mk hm
   clear hm
   by_cases c2 : m = []
   · subst c2
     rw [if_pos (Eq.refl ([] : List Int))] at h
     obtain rfl := Option.some.inj h
     clear h
     go_enter Try.func26, Try.ntmps26
     go_wp2_with (first | (go_at_call 43; refine (incipitref1_Split.nil_ a0 _ HO.out).mono ?_; rintro e w1 ⟨rfl, rfl⟩) | (go_at_call 44; refine (incipitref1_Map.nil_ k a0 _ HM.out).mono ?_; rintro e w2 ⟨rfl, hb⟩) | ((with_reducible refine gate_dst (N := 13) rfl ?_); refine Kd.R_lit (Kd.int .i64) _ 3 ?hg (N := 13) ?hd (xs := ([a0] : List Int)) (inner := [.int .i64 a0]) (ok := fun _ => True) (okp := fun _ => True) ?hr ?hp (fun _ hk => hk) trivial (Below.refl _ _) (Nat.le_refl _) (by simp) ?_; (case hd => rfl); (case hg => rfl); (case hr => first | (go_simp; done) | (go_simp; rfl)); (case hp => exact (Reps.one (show Kd.M (Kd.int .i64) _ _ _ a0 [.int .i64 a0] from rfl) (Reps.none _ _))); intro v1_ w3 ho3 hb3 hg_ hnew_; clear hg_ hnew_))
     go_ret
     exact ⟨_, rfl, Kd.R_lower ho3 (below_size hb), below_step hb hb3⟩
   · rw [if_neg c2] at h
     obtain rfl := Option.some.inj h
     have hne := Aside0.mk c2
     clear h c2
     go_enter Try.func26, Try.ntmps26
     go_wp2_with (first | (go_at_call 43; refine (incipitref1_Split.nil_ a0 _ HO.out).mono ?_; rintro e w1 ⟨rfl, rfl⟩) | (go_at_call 44; refine (incipitref1_Map.calls k a0 _ _ HM.out).mono ?_; rintro e w2 ⟨v0_, rfl, hr, hb⟩; obtain ⟨ad, cc, rfl⟩ := ra_some_ hr hne.out))
     go_ret
     exact ⟨_, rfl, hr, hb⟩
 · rw [if_neg c1] at h
   obtain rfl := Option.some.inj h
   have hne := Aside0.mk c1
   clear h c1
   go_enter Try.func26, Try.ntmps26
   go_wp2_with (go_at_call 43; refine (incipitref1_Split.calls k a0 _ _ HL.out).mono ?_; rintro e w2 ⟨v0_, rfl, hr, hb⟩; obtain ⟨ad, cc, rfl⟩ := ra_some_ hr hne.out)
   go_ret
   exact ⟨_, rfl, hr, hb⟩

end Go.Proofs.Ytklggdenloenlaa.MNorm
