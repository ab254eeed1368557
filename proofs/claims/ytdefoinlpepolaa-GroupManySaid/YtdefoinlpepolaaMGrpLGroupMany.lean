-- written by mp.py, a program of this session's over the kit's printer
import Derived.Test.YtdefoinlpepolaaMGrpx0
import Derived.Test.YtdefoinlpepolaaMGrpx8
import Derived.Test.YtdefoinlpepolaaMGrpB
namespace Go.Proofs.Ytdefoinlpepolaa.MGrp
open Go.RowKit Go.Proofs.YtdefoinlpepolaaW.PrintWords Go.Proofs.YtdefoinlpepolaaW.PrintLast Go.Proofs.YtdefoinlpepolaaW.PrintMore
attribute [local go_sem] max2_int min2_int max_two min_two max_three min_three max_four min_four   -- for this text's walks alone
set_option linter.unusedVariables false
set_option linter.unusedSimpArgs false

/-! ### incipitlaw12_GroupMany: function 3 -/
mutual
def incipitlaw12_GroupMany.j0 : Nat → Int → Int → Int → Bool → Option (Bool)
 | 0, _, _, _, _ => none
 | k + 1, x0, x1, x2, x38 => if x38 = true then (some true) else (incipitlaw12_GroupMany.l0 k x0 x1 x2 ([] : List (S25)) 0)
def incipitlaw12_GroupMany.l0 : Nat → Int → Int → Int → List (S25) → Int → Option (Bool)
 | 0, _, _, _, _, _ => none
 | k + 1, x0, x1, x2, x8, x9 => if x9 < x0 then (if x8.length < 3518437208883 then (incipitlaw12_GroupMany.l0 k x0 x1 x2 (x8 ++ [(⟨1, (⟨#[107]⟩ : ByteArray), (⟨#[]⟩ : ByteArray)⟩ : S25)]) (wrap64 (x9 + 1))) else (none)) else ((batch_Check.f k x8).bind fun t299 => (if 0 ≤ x1 then (if (x1 : Int).toNat ≤ 281474976710656 then (if 0 ≤ (wrap64 (1048571 + x2)) then (if (wrap64 (1048571 + x2) : Int).toNat ≤ 281474976710656 then ((batch_Check.f k (([(⟨1, strOfNums (List.replicate (x1 : Int).toNat 0), strOfNums (List.replicate (wrap64 (1048571 + x2) : Int).toNat 0)⟩ : S25)] : List (S25)))).bind fun t309 => (if x0 < 1 then (incipitlaw12_GroupMany.j2 k x1 x2 t299 t309 0 true) else (incipitlaw12_GroupMany.j2 k x1 x2 t299 t309 0 (decide (x0 > 50))))) else (none)) else (none)) else (none)) else (none)))
def incipitlaw12_GroupMany.j2 : Nat → Int → Int → Int → Int → Int → Bool → Option (Bool)
 | 0, _, _, _, _, _, _ => none
 | k + 1, x1, x2, x10, x11, x12, x65 => if x65 = true then (incipitlaw12_GroupMany.j3 k x1 x2 x10 x11 12) else (incipitlaw12_GroupMany.j3 k x1 x2 x10 x11 x12)
def incipitlaw12_GroupMany.j3 : Nat → Int → Int → Int → Int → Int → Option (Bool)
 | 0, _, _, _, _, _ => none
 | k + 1, x1, x2, x10, x11, x12 => if x2 > 5 then (if x1 < 1 then (if x10 = x12 then (some (x11 == 1)) else (none)) else (if x1 > 4096 then (if x10 = x12 then (some (x11 == 1)) else (none)) else (if x10 = x12 then (some (x11 == 2)) else (none)))) else (if x1 < 1 then (if x10 = x12 then (some (x11 == 1)) else (none)) else (if x1 > 4096 then (if x10 = x12 then (some (x11 == 1)) else (none)) else (if x10 = x12 then (some (x11 == 0)) else (none))))
end
def incipitlaw12_GroupMany.f (k : Nat) (a0 : Int) (a1 : Int) (a2 : Int) : Option (Bool) := (incipitlaw12_begun.f).bind fun t295 => (if t295 = true then (if a0 < 0 then (incipitlaw12_GroupMany.j0 k a0 a1 a2 true) else (if a0 > 60 then (incipitlaw12_GroupMany.j0 k a0 a1 a2 true) else (if a1 < 0 then (incipitlaw12_GroupMany.j0 k a0 a1 a2 true) else (if a1 > 4200 then (incipitlaw12_GroupMany.j0 k a0 a1 a2 true) else (if a2 < 0 then (incipitlaw12_GroupMany.j0 k a0 a1 a2 true) else (incipitlaw12_GroupMany.j0 k a0 a1 a2 (decide (a2 > 10)))))))) else (none))
theorem incipitlaw12_GroupMany.mono_l : ∀ k, (∀ y0 y1 y2 y3, LeO (incipitlaw12_GroupMany.j0 k y0 y1 y2 y3) (incipitlaw12_GroupMany.j0 (k + 1) y0 y1 y2 y3)) ∧ (∀ y0 y1 y2 y3 y4, LeO (incipitlaw12_GroupMany.l0 k y0 y1 y2 y3 y4) (incipitlaw12_GroupMany.l0 (k + 1) y0 y1 y2 y3 y4)) ∧ (∀ y0 y1 y2 y3 y4 y5, LeO (incipitlaw12_GroupMany.j2 k y0 y1 y2 y3 y4 y5) (incipitlaw12_GroupMany.j2 (k + 1) y0 y1 y2 y3 y4 y5)) ∧ (∀ y0 y1 y2 y3 y4, LeO (incipitlaw12_GroupMany.j3 k y0 y1 y2 y3 y4) (incipitlaw12_GroupMany.j3 (k + 1) y0 y1 y2 y3 y4))
 | 0 => ⟨fun _ _ _ _ r h => by simp [incipitlaw12_GroupMany.j0] at h, fun _ _ _ _ _ r h => by simp [incipitlaw12_GroupMany.l0] at h, fun _ _ _ _ _ _ r h => by simp [incipitlaw12_GroupMany.j2] at h, fun _ _ _ _ _ r h => by simp [incipitlaw12_GroupMany.j3] at h⟩
 | k + 1 => by
  obtain ⟨ih0, ih1, ih2, ih3⟩ := incipitlaw12_GroupMany.mono_l k
  refine ⟨?_, ?_, ?_, ?_⟩
  · intro y0 y1 y2 y3
    unfold incipitlaw12_GroupMany.j0
    repeat' first
    | (with_reducible exact ih0 _ _ _ _)
    | (with_reducible exact ih1 _ _ _ _ _)
    | (with_reducible exact ih2 _ _ _ _ _ _)
    | (with_reducible exact ih3 _ _ _ _ _)
    | (with_reducible exact batch_Check.mono _ _)
    | (with_reducible exact LeO.refl _)
    | (with_reducible exact LeO.none _)
    | (with_reducible refine LeO.ite ?_ ?_)
    | (with_reducible refine LeO.bind ?_ (fun _ => ?_))
    | exact ih0 _ _ _ _
    | exact ih1 _ _ _ _ _
    | exact ih2 _ _ _ _ _ _
    | exact ih3 _ _ _ _ _
    | exact batch_Check.mono _ _
    | exact LeO.none _
    | refine LeO.ite ?_ ?_
    | refine LeO.bind ?_ (fun _ => ?_)
  · intro y0 y1 y2 y3 y4
    unfold incipitlaw12_GroupMany.l0
    repeat' first
    | (with_reducible exact ih0 _ _ _ _)
    | (with_reducible exact ih1 _ _ _ _ _)
    | (with_reducible exact ih2 _ _ _ _ _ _)
    | (with_reducible exact ih3 _ _ _ _ _)
    | (with_reducible exact batch_Check.mono _ _)
    | (with_reducible exact LeO.refl _)
    | (with_reducible exact LeO.none _)
    | (with_reducible refine LeO.ite ?_ ?_)
    | (with_reducible refine LeO.bind ?_ (fun _ => ?_))
    | exact ih0 _ _ _ _
    | exact ih1 _ _ _ _ _
    | exact ih2 _ _ _ _ _ _
    | exact ih3 _ _ _ _ _
    | exact batch_Check.mono _ _
    | exact LeO.none _
    | refine LeO.ite ?_ ?_
    | refine LeO.bind ?_ (fun _ => ?_)
  · intro y0 y1 y2 y3 y4 y5
    unfold incipitlaw12_GroupMany.j2
    repeat' first
    | (with_reducible exact ih0 _ _ _ _)
    | (with_reducible exact ih1 _ _ _ _ _)
    | (with_reducible exact ih2 _ _ _ _ _ _)
    | (with_reducible exact ih3 _ _ _ _ _)
    | (with_reducible exact batch_Check.mono _ _)
    | (with_reducible exact LeO.refl _)
    | (with_reducible exact LeO.none _)
    | (with_reducible refine LeO.ite ?_ ?_)
    | (with_reducible refine LeO.bind ?_ (fun _ => ?_))
    | exact ih0 _ _ _ _
    | exact ih1 _ _ _ _ _
    | exact ih2 _ _ _ _ _ _
    | exact ih3 _ _ _ _ _
    | exact batch_Check.mono _ _
    | exact LeO.none _
    | refine LeO.ite ?_ ?_
    | refine LeO.bind ?_ (fun _ => ?_)
  · intro y0 y1 y2 y3 y4
    unfold incipitlaw12_GroupMany.j3
    repeat' first
    | (with_reducible exact ih0 _ _ _ _)
    | (with_reducible exact ih1 _ _ _ _ _)
    | (with_reducible exact ih2 _ _ _ _ _ _)
    | (with_reducible exact ih3 _ _ _ _ _)
    | (with_reducible exact batch_Check.mono _ _)
    | (with_reducible exact LeO.refl _)
    | (with_reducible exact LeO.none _)
    | (with_reducible refine LeO.ite ?_ ?_)
    | (with_reducible refine LeO.bind ?_ (fun _ => ?_))
    | exact ih0 _ _ _ _
    | exact ih1 _ _ _ _ _
    | exact ih2 _ _ _ _ _ _
    | exact ih3 _ _ _ _ _
    | exact batch_Check.mono _ _
    | exact LeO.none _
    | refine LeO.ite ?_ ?_
    | refine LeO.bind ?_ (fun _ => ?_)
theorem incipitlaw12_GroupMany.mono : ∀ a0 a1 a2 k, LeO (incipitlaw12_GroupMany.f k a0 a1 a2) (incipitlaw12_GroupMany.f (k + 1) a0 a1 a2) := by
 intro a0 a1 a2 k
 obtain ⟨ih0, ih1, ih2, ih3⟩ := incipitlaw12_GroupMany.mono_l k
 unfold incipitlaw12_GroupMany.f
 repeat' first
  | (with_reducible exact ih0 _ _ _ _)
  | (with_reducible exact ih1 _ _ _ _ _)
  | (with_reducible exact ih2 _ _ _ _ _ _)
  | (with_reducible exact ih3 _ _ _ _ _)
  | (with_reducible exact batch_Check.mono _ _)
  | (with_reducible exact LeO.refl _)
  | (with_reducible exact LeO.none _)
  | (with_reducible refine LeO.ite ?_ ?_)
  | (with_reducible refine LeO.bind ?_ (fun _ => ?_))
  | exact ih0 _ _ _ _
  | exact ih1 _ _ _ _ _
  | exact ih2 _ _ _ _ _ _
  | exact ih3 _ _ _ _ _
  | exact batch_Check.mono _ _
  | exact LeO.none _
  | refine LeO.ite ?_ ?_
  | refine LeO.bind ?_ (fun _ => ?_)
def incipitlaw12_GroupMany.T12 : Bool × List (List Nat × List Nat) := (true, [([], []), ([0, 0], [0]), ([1], [1]), ([], []), ([3], [3]), ([4, 4], [4]), ([5], [5]), ([2, 6], [2, 6]), ([7], [7]), ([8], [8]), ([9, 9, 0, 1, 2, 3, 4, 5, 6, 7, 8, 9], [9])])
def incipitlaw12_GroupMany.B12 : List Nat := [0, 1, 3, 0, 8, 24, 56, 127, 255, 511, 1023]
theorem incipitlaw12_GroupMany.tab12 : rtab .any (opsOf Try.f3 12) = incipitlaw12_GroupMany.T12 := by kernel_rfl
theorem incipitlaw12_GroupMany.bits12 : waitsOk incipitlaw12_GroupMany.T12.2 incipitlaw12_GroupMany.B12 = true := by kernel_rfl
set_option maxHeartbeats 8000000 in
set_option maxRecDepth 100000 in
theorem incipitlaw12_GroupMany.calls (k : Nat) (a0 : Int) (a1 : Int) (a2 : Int) (r : Bool) (w : World) (h : incipitlaw12_GroupMany.f k a0 a1 a2 = some r) :
 Calls Try.prog 3 #[.int .i64 a0, .int .i64 a1, .int .i64 a2] w fun e w' => e = .returned (.bool r) ∧ Below w.heap.size w w' := by
 have hu25 := Try.underlying25
 have HB := Aside0.mk (Below.refl w.heap.size w)
 have H : ((incipitlaw12_begun.f).bind fun t295 => (if t295 = true then (if a0 < 0 then (incipitlaw12_GroupMany.j0 k a0 a1 a2 true) else (if a0 > 60 then (incipitlaw12_GroupMany.j0 k a0 a1 a2 true) else (if a1 < 0 then (incipitlaw12_GroupMany.j0 k a0 a1 a2 true) else (if a1 > 4200 then (incipitlaw12_GroupMany.j0 k a0 a1 a2 true) else (if a2 < 0 then (incipitlaw12_GroupMany.j0 k a0 a1 a2 true) else (incipitlaw12_GroupMany.j0 k a0 a1 a2 (decide (a2 > 10)))))))) else (none))) = some r := h
 clear h
 replace H := Option.bind_eq_some_iff.mp H
 obtain ⟨t295, A40, H⟩ := H
 replace H : (if t295 = true then (if a0 < 0 then (incipitlaw12_GroupMany.j0 k a0 a1 a2 true) else (if a0 > 60 then (incipitlaw12_GroupMany.j0 k a0 a1 a2 true) else (if a1 < 0 then (incipitlaw12_GroupMany.j0 k a0 a1 a2 true) else (if a1 > 4200 then (incipitlaw12_GroupMany.j0 k a0 a1 a2 true) else (if a2 < 0 then (incipitlaw12_GroupMany.j0 k a0 a1 a2 true) else (incipitlaw12_GroupMany.j0 k a0 a1 a2 (decide (a2 > 10)))))))) else (none)) = some r := H
 have A4 := Aside0.mk A40
 clear A40
 by_cases c5 : t295 = true
 · subst c5
   have H1 : (if a0 < 0 then (incipitlaw12_GroupMany.j0 k a0 a1 a2 true) else (if a0 > 60 then (incipitlaw12_GroupMany.j0 k a0 a1 a2 true) else (if a1 < 0 then (incipitlaw12_GroupMany.j0 k a0 a1 a2 true) else (if a1 > 4200 then (incipitlaw12_GroupMany.j0 k a0 a1 a2 true) else (if a2 < 0 then (incipitlaw12_GroupMany.j0 k a0 a1 a2 true) else (incipitlaw12_GroupMany.j0 k a0 a1 a2 (decide (a2 > 10)))))))) = some r := by rw [if_pos rfl] at H; exact H
   clear H
   have H := H1
   clear H1
   have HC6 := Aside0.mk H
   clear H
   go_enter Try.func3, Try.ntmps3
   go_upto_region 4 with (first | ((with_reducible refine gate_callee (f := 14) rfl ?_); refine goesL_ (some 14) rfl rfl Try.func14 (by kernel_rfl) rfl #[] rfl (by (try simp only [List.map_toArray, List.map_cons, List.map_nil]); first | done | rfl | (simp only [List.length_drop, List.length_take]; rfl)) ?_; (with_reducible refine (incipitlaw12_begun.calls  true _ A4.out).mono ?_); rintro e w7 ⟨rfl, hb⟩; refine ⟨_, rfl, ?_⟩; have n0_ := Aside0.mk (below_step (by repeat (first | (with_reducible first | exact HB.out | apply below_alloc | apply pw_below_drewN | apply below_drew1) | exact HB.out)) hb); clear HB; have HB := n0_; clear n0_; (try clear hb); (try clear hb2); (try clear hk); (try clear hi)))
   (try simp only [Act.put, List.setIfInBounds_toArray, List.set_cons_zero, List.set_cons_succ])
   go_cut [38] (fun v38 wc => ∃ (kq : Nat) (x38_5 : Bool), v38 = .bool x38_5 ∧ Aside0 (incipitlaw12_GroupMany.j0 kq a0 a1 a2 x38_5 = some r) ∧ Aside0 (kq ≤ k) ∧ Aside0 (Below w.heap.size w wc))
   case first =>
    have H := HC6.out
    clear HC6
    by_cases c8 : a0 < 0
    · rw [if_pos c8] at H
      have c8b0 : decide (a0 < 0) = true := decide_eq_true c8
      clear c8
      (first | rw [c8b0] | (simp only [i64_w, i32_w]; rw [c8b0]) | skip)
      have H' := Aside0.mk H
      clear H
      go_wp2
      go_meet
      case rel => exact ⟨_, (true), (by first | rfl | (simp; done) | (simp [*]; done)), H', ⟨by first | omega | exact Nat.le_refl _⟩, ⟨by repeat (first | (with_reducible first | exact HB.out | apply below_alloc | apply pw_below_drewN | apply below_drew1) | exact HB.out)⟩⟩
    · rw [if_neg c8] at H
      have c8b0 : decide (a0 < 0) = false := decide_eq_false c8
      clear c8
      (first | rw [c8b0] | (simp only [i64_w, i32_w]; rw [c8b0]) | skip)
      by_cases c9 : a0 > 60
      · rw [if_pos c9] at H
        have c9b0 : decide (60 < a0) = true := decide_eq_true c9
        clear c9
        have H' := Aside0.mk H
        clear H
        go_wp2
        go_meet
        case rel => exact ⟨_, (true), (by first | rfl | (simp; done) | (simp [*]; done)), H', ⟨by first | omega | exact Nat.le_refl _⟩, ⟨by repeat (first | (with_reducible first | exact HB.out | apply below_alloc | apply pw_below_drewN | apply below_drew1) | exact HB.out)⟩⟩
      · rw [if_neg c9] at H
        have c9b0 : decide (60 < a0) = false := decide_eq_false c9
        clear c9
        by_cases c10 : a1 < 0
        · rw [if_pos c10] at H
          have c10b0 : decide (a1 < 0) = true := decide_eq_true c10
          clear c10
          have H' := Aside0.mk H
          clear H
          go_wp2
          go_meet
          case rel => exact ⟨_, (true), (by first | rfl | (simp; done) | (simp [*]; done)), H', ⟨by first | omega | exact Nat.le_refl _⟩, ⟨by repeat (first | (with_reducible first | exact HB.out | apply below_alloc | apply pw_below_drewN | apply below_drew1) | exact HB.out)⟩⟩
        · rw [if_neg c10] at H
          have c10b0 : decide (a1 < 0) = false := decide_eq_false c10
          clear c10
          by_cases c11 : a1 > 4200
          · rw [if_pos c11] at H
            have c11b0 : decide (4200 < a1) = true := decide_eq_true c11
            clear c11
            have H' := Aside0.mk H
            clear H
            go_wp2
            go_meet
            case rel => exact ⟨_, (true), (by first | rfl | (simp; done) | (simp [*]; done)), H', ⟨by first | omega | exact Nat.le_refl _⟩, ⟨by repeat (first | (with_reducible first | exact HB.out | apply below_alloc | apply pw_below_drewN | apply below_drew1) | exact HB.out)⟩⟩
          · rw [if_neg c11] at H
            have c11b0 : decide (4200 < a1) = false := decide_eq_false c11
            clear c11
            by_cases c12 : a2 < 0
            · rw [if_pos c12] at H
              have c12b0 : decide (a2 < 0) = true := decide_eq_true c12
              clear c12
              have H' := Aside0.mk H
              clear H
              go_wp2
              go_meet
              case rel => exact ⟨_, (true), (by first | rfl | (simp; done) | (simp [*]; done)), H', ⟨by first | omega | exact Nat.le_refl _⟩, ⟨by repeat (first | (with_reducible first | exact HB.out | apply below_alloc | apply pw_below_drewN | apply below_drew1) | exact HB.out)⟩⟩
            · rw [if_neg c12] at H
              have c12b0 : decide (a2 < 0) = false := decide_eq_false c12
              clear c12
              have H' := Aside0.mk H
              clear H
              go_wp2
              go_meet
              case rel => exact ⟨_, (decide (a2 > 10)), (by first | rfl | (simp; done) | (simp [*]; done)), H', ⟨by first | omega | exact Nat.le_refl _⟩, ⟨by repeat (first | (with_reducible first | exact HB.out | apply below_alloc | apply pw_below_drewN | apply below_drew1) | exact HB.out)⟩⟩
   case rest =>
    clear HC6
    (try clear c1); (try clear p2); (try clear c3); (try clear c5); (try clear c8); (try clear c8b0); (try clear c9); (try clear c9b0); (try clear c10); (try clear c10b0); (try clear c11); (try clear c11b0); (try clear c12); (try clear c12b0)
    obtain ⟨kq, x38_5, rfl, HA, HJ5, HB⟩ := hcut
    cases kq with
    | zero => exact absurd HA.out (by simp [incipitlaw12_GroupMany.j0])
    | succ kj5 =>
     have H := HA.out
     clear HA
     simp only [incipitlaw12_GroupMany.j0] at H
     by_cases c13 : x38_5 = true
     · subst c13
       have H1 : (some true) = some r := by rw [if_pos rfl] at H; exact H
       clear H
       have H := H1
       clear H1
       obtain rfl := Option.some.inj H
       go_wp2
       go_ret
       exact ⟨by first | rfl | (simp [errW_none, errW_some] <;> rfl) | (simp [*, errW_none, errW_some] <;> rfl) | (first | (simp (disch := omega) [w64_s, errW_none, errW_some]; done) | (simp (disch := omega) [w64_s, errW_none, errW_some] <;> rfl)), by repeat (first | (with_reducible first | exact HB.out | apply below_alloc | apply pw_below_drewN | apply below_drew1) | exact HB.out)⟩
     · replace c13 := Bool.eq_false_iff.mpr c13
       subst c13
       have H1 : (incipitlaw12_GroupMany.l0 kj5 a0 a1 a2 ([] : List (S25)) 0) = some r := by rw [if_neg (show ¬ (false = true) by decide)] at H; exact H
       clear H
       have H := H1
       clear H1
       have H' := Aside0.mk H
       clear H
       go_wp2
       try simp only [Act.put, List.setIfInBounds_toArray, List.set_cons_succ, List.set_cons_zero]
       go_loopg [8, 9] kj5 (fun kq v8 v9 w' => ∃ (x8_2 : List (S25)) (x9_2 : Int), v9 = .int .i64 x9_2 ∧ Aside0 (incipitlaw12_GroupMany.l0 kq a0 a1 a2 x8_2 x9_2 = some r) ∧ Aside0 (kq ≤ kj5) ∧ Aside0 (Kd.R k25 25 w' w.heap.size (fun _ => True) v8 x8_2) ∧ Aside0 (Below w.heap.size w w'))
       case atStart => exact ⟨(([] : List (S25))), (0), (by first | rfl | (simp; done) | (simp [*]; done)), H', ⟨Nat.le_refl _⟩, ⟨by first | exact Kd.R_nil _ _ _ _ _ | exact Kd.N_nil _ _ _ _ _ | exact Kd.V_nil _ _ _ _ _ | exact Kd.Q_nil _ _ _ _ _ | exact Kd.S_nil _ _ _ _ _⟩, ⟨by repeat (first | (with_reducible first | exact HB.out | apply below_alloc | apply pw_below_drewN | apply below_drew1) | exact HB.out)⟩⟩
       case round =>
        clear H'
        (try clear c1); (try clear p2); (try clear c3); (try clear c5); (try clear c8); (try clear c8b0); (try clear c9); (try clear c9b0); (try clear c10); (try clear c10b0); (try clear c11); (try clear c11b0); (try clear c12); (try clear c12b0); (try clear c13); (try clear p2)
        obtain ⟨x8_2, x9_2, rfl, HA, HK2, HO_8, HB⟩ := hrel
        cases gk with
        | zero => exact absurd HA.out (by simp [incipitlaw12_GroupMany.l0])
        | succ k2 =>
         have H := HA.out
         clear HA
         simp only [incipitlaw12_GroupMany.l0] at H
         by_cases c14 : x9_2 < a0
         · rw [if_pos c14] at H
           have c14b0 : decide (x9_2 < a0) = true := decide_eq_true c14
           clear c14
           by_cases c15 : x8_2.length < 3518437208883
           · rw [if_pos c15] at H
             have LMc15 := Aside0.mk c15
             clear c15
             obtain ⟨y296, hy296⟩ : ∃ y_ : List (S25), y_ = (x8_2 ++ [(⟨1, (⟨#[107]⟩ : ByteArray), (⟨#[]⟩ : ByteArray)⟩ : S25)]) := ⟨_, rfl⟩
             replace H : (incipitlaw12_GroupMany.l0 k2 a0 a1 a2 y296 (wrap64 (x9_2 + 1))) = some r := by first | (rw [hy296]; with_reducible exact H) | (have H2_ := (Option.bind_some _ _).symm.trans H; rw [hy296]; with_reducible exact H2_) | (have H2_ := (Option.bind_some _ _).symm.trans H; with_reducible exact H2_) | with_reducible exact H | (rw [hy296]; exact H) | exact H
             have Ny296 := Aside0.mk hy296
             clear hy296
             have H' := Aside0.mk H
             clear H
             go_wp2_with (first | ((with_reducible refine gate_builtin (b := .append) (xs := #[.tmp 44, .tmp 46]) rfl ?_); at_builtin; refine Kd.R_append k25 (w0 := w) w.heap.size rfl (.tmp 44) (.tmp 46) 23 25 (.agg #[(.int .i64 0), (.string ⟨#[]⟩), (.string ⟨#[]⟩)]) 40 rfl Try.underlying23 info25 rfl (by decide) (by omega) u8 x8_2 (⟨1, (⟨#[107]⟩ : ByteArray), (⟨#[]⟩ : ByteArray)⟩ : S25) [.int .i64 1, .string (⟨#[107]⟩ : ByteArray), .string (⟨#[]⟩ : ByteArray)] (fun _ => True) (fun _ => False) rfl rfl ?aP (fun _ hk => hk.elim) ?aF ?aO ?aB ?aS ?aL ?_; (case aP => exact k25_mkM _ _ _ (⟨1, (⟨#[107]⟩ : ByteArray), (⟨#[]⟩ : ByteArray)⟩ : S25)); (case aB => exact (by repeat (first | (with_reducible first | exact HB.out | apply below_alloc | apply pw_below_drewN | apply below_drew1) | exact HB.out))); (case aF => exact (fun _ _ => trivial)); (case aO => exact (by (with_reducible repeat (first | apply Kd.R_alloc | apply Kd.R_drewN | apply Kd.R_drew)); exact HO_8.out)); (case aS => exact (below_size (by repeat (first | (with_reducible first | exact HB.out | apply below_alloc | apply pw_below_drewN | apply below_drew1) | exact HB.out)))); (case aL => have := LMc15.out; omega); intro v297 w16 ho hb hg hat; rw [← Ny296.out] at ho; have n0_ := Aside0.mk (hb); have n1_ := Aside0.mk (ho); clear HB; clear HO_8; have HB := n0_; have HO298 := n1_; clear n0_ n1_; clear ho hb hg hat))
             go_roundg k2
             case measure => have := HJ5.out; have := HK2.out; omega
             case rel => exact ⟨(y296), (wrap64 (x9_2 + 1)), (by first | rfl | (simp; done) | (simp [*]; done)), H', ⟨by have := HJ5.out; have := HK2.out; omega⟩, ⟨by (with_reducible repeat (first | apply Kd.R_alloc | apply Kd.R_drewN | apply Kd.R_drew)); exact HO298.out⟩, ⟨by repeat (first | (with_reducible first | exact HB.out | apply below_alloc | apply pw_below_drewN | apply below_drew1) | exact HB.out)⟩⟩
           · rw [if_neg c15] at H
             exact absurd H (by simp)
         · rw [if_neg c14] at H
           have c14b0 : decide (x9_2 < a0) = false := decide_eq_false c14
           clear c14
           replace H := Option.bind_eq_some_iff.mp H
           obtain ⟨t299, A170, H⟩ := H
           replace H : (if 0 ≤ a1 then (if (a1 : Int).toNat ≤ 281474976710656 then (if 0 ≤ (wrap64 (1048571 + a2)) then (if (wrap64 (1048571 + a2) : Int).toNat ≤ 281474976710656 then ((batch_Check.f k2 (([(⟨1, strOfNums (List.replicate (a1 : Int).toNat 0), strOfNums (List.replicate (wrap64 (1048571 + a2) : Int).toNat 0)⟩ : S25)] : List (S25)))).bind fun t309 => (if a0 < 1 then (incipitlaw12_GroupMany.j2 k2 a1 a2 t299 t309 0 true) else (incipitlaw12_GroupMany.j2 k2 a1 a2 t299 t309 0 (decide (a0 > 50))))) else (none)) else (none)) else (none)) else (none)) = some r := H
           have A17 := Aside0.mk A170
           clear A170
           by_cases c18 : 0 ≤ a1
           · rw [if_pos c18] at H
             have c18b0 := eq_true c18
             have c18b1 : decide (0 ≤ a1) = true := decide_eq_true c18
             clear c18
             by_cases c19 : (a1 : Int).toNat ≤ 281474976710656
             · rw [if_pos c19] at H
               have c19b0 := eq_true c19
               have c19b1 : decide ((a1 : Int).toNat ≤ 281474976710656) = true := decide_eq_true c19
               clear c19
               obtain ⟨y300, hy300⟩ : ∃ y_ : List Int, y_ = (List.replicate (a1 : Int).toNat 0) := ⟨_, rfl⟩
               replace H : (if 0 ≤ (wrap64 (1048571 + a2)) then (if (wrap64 (1048571 + a2) : Int).toNat ≤ 281474976710656 then ((batch_Check.f k2 (([(⟨1, strOfNums y300, strOfNums (List.replicate (wrap64 (1048571 + a2) : Int).toNat 0)⟩ : S25)] : List (S25)))).bind fun t309 => (if a0 < 1 then (incipitlaw12_GroupMany.j2 k2 a1 a2 t299 t309 0 true) else (incipitlaw12_GroupMany.j2 k2 a1 a2 t299 t309 0 (decide (a0 > 50))))) else (none)) else (none)) = some r := by first | (rw [hy300]; with_reducible exact H) | (have H2_ := (Option.bind_some _ _).symm.trans H; rw [hy300]; with_reducible exact H2_) | (have H2_ := (Option.bind_some _ _).symm.trans H; with_reducible exact H2_) | with_reducible exact H | (rw [hy300]; exact H) | exact H
               have Ny300 := Aside0.mk hy300
               clear hy300
               obtain ⟨ji20, hji20⟩ : ∃ j_ : Int, (wrap64 (1048571 + a2)) = j_ := ⟨_, rfl⟩
               replace H : (if 0 ≤ (ji20) then (if (ji20 : Int).toNat ≤ 281474976710656 then ((batch_Check.f k2 (([(⟨1, strOfNums y300, strOfNums (List.replicate (ji20 : Int).toNat 0)⟩ : S25)] : List (S25)))).bind fun t309 => (if a0 < 1 then (incipitlaw12_GroupMany.j2 k2 a1 a2 t299 t309 0 true) else (incipitlaw12_GroupMany.j2 k2 a1 a2 t299 t309 0 (decide (a0 > 50))))) else (none)) else (none)) = some r := by first | (rw [hji20] at H; exact H) | (simp only [hji20] at H ⊢; exact H)
               (try rw [hji20] at A17)
               have hji20w : (IntKind.i64.wrap (1048571 + a2)) = ji20 := (i64_w _).trans hji20
               by_cases c21 : 0 ≤ (ji20)
               · rw [if_pos c21] at H
                 have c21b0 := eq_true c21
                 have c21b1 : decide (0 ≤ (ji20)) = true := decide_eq_true c21
                 clear c21
                 by_cases c22 : (ji20 : Int).toNat ≤ 281474976710656
                 · rw [if_pos c22] at H
                   have c22b0 := eq_true c22
                   have c22b1 : decide ((ji20 : Int).toNat ≤ 281474976710656) = true := decide_eq_true c22
                   clear c22
                   obtain ⟨y303, hy303⟩ : ∃ y_ : List Int, y_ = (List.replicate (ji20 : Int).toNat 0) := ⟨_, rfl⟩
                   replace H : ((batch_Check.f k2 (([(⟨1, strOfNums y300, strOfNums y303⟩ : S25)] : List (S25)))).bind fun t309 => (if a0 < 1 then (incipitlaw12_GroupMany.j2 k2 a1 a2 t299 t309 0 true) else (incipitlaw12_GroupMany.j2 k2 a1 a2 t299 t309 0 (decide (a0 > 50))))) = some r := by first | (rw [hy303]; with_reducible exact H) | (have H2_ := (Option.bind_some _ _).symm.trans H; rw [hy303]; with_reducible exact H2_) | (have H2_ := (Option.bind_some _ _).symm.trans H; with_reducible exact H2_) | with_reducible exact H | (rw [hy303]; exact H) | exact H
                   have Ny303 := Aside0.mk hy303
                   clear hy303
                   obtain ⟨y306, hy306⟩ : ∃ y_ : List (S25), y_ = (([(⟨1, strOfNums y300, strOfNums y303⟩ : S25)] : List (S25))) := ⟨_, rfl⟩
                   replace H : ((batch_Check.f k2 y306).bind fun t309 => (if a0 < 1 then (incipitlaw12_GroupMany.j2 k2 a1 a2 t299 t309 0 true) else (incipitlaw12_GroupMany.j2 k2 a1 a2 t299 t309 0 (decide (a0 > 50))))) = some r := by first | (rw [hy306]; with_reducible exact H) | (have H2_ := (Option.bind_some _ _).symm.trans H; rw [hy306]; with_reducible exact H2_) | (have H2_ := (Option.bind_some _ _).symm.trans H; with_reducible exact H2_) | with_reducible exact H | (rw [hy306]; exact H) | exact H
                   have Ny306 := Aside0.mk hy306
                   clear hy306
                   replace H := Option.bind_eq_some_iff.mp H
                   obtain ⟨t309, A230, H⟩ := H
                   replace H : (if a0 < 1 then (incipitlaw12_GroupMany.j2 k2 a1 a2 t299 t309 0 true) else (incipitlaw12_GroupMany.j2 k2 a1 a2 t299 t309 0 (decide (a0 > 50)))) = some r := H
                   have A23 := Aside0.mk A230
                   clear A230
                   have HC24 := Aside0.mk H
                   clear H
                   obtain ⟨Ao25, co25, eo25⟩ := Kd.R_slice HO_8.out
                   subst eo25
                   try go_wp2_with (first | ((with_reducible refine gate_callee (f := 15) rfl ?_); refine goesL_ (some 49) rfl rfl Try.func15 (by kernel_rfl) rfl #[.slice Ao25 x8_2.length co25] rfl (by (try simp only [List.map_toArray, List.map_cons, List.map_nil]); first | done | rfl | (simp only [List.length_drop, List.length_take]; rfl)) ?_; (with_reducible refine (batch_Check.calls k2 _ _ x8_2 t299 _ ?side1 ?side2 A17.out).mono ?_); (case side1 => repeat (first | exact (Kd.R_reads' HO_8.out).2.2 | (with_reducible refine Kd.C_alloc ?_ _) | (with_reducible refine Kd.C_drewN ?_ _) | (with_reducible refine Kd.C_drew ?_))); (case side2 => exact (Kd.R_reads' HO_8.out).2.1); rintro e w26 ⟨rfl, hb⟩; refine ⟨_, rfl, ?_⟩; have n0_ := Aside0.mk (Kd.R_below (by (with_reducible repeat (first | apply Kd.R_alloc | apply Kd.R_drewN | apply Kd.R_drew)); exact HO_8.out) hb); have n1_ := Aside0.mk (below_step (by repeat (first | (with_reducible first | exact HB.out | apply below_alloc | apply pw_below_drewN | apply below_drew1) | exact HB.out)) hb); clear HO_8; clear HB; have HO_8 := n0_; have HB := n1_; clear n0_ n1_; (try clear hb); (try clear hb2); (try clear hk); (try clear hi)))
                   have n0_ := Aside0.mk (Kd.R_drew HO_8.out)
                   have n1_ := Aside0.mk (below_drew1 HB.out)
                   clear HO_8
                   clear HB
                   have HO_8 := n0_
                   have HB := n1_
                   clear n0_ n1_
                   refine start_ (n := 11) (S := fun w' => True) (ds := []) #[false, false, false, false, false, false, false, false, false, false, false] (by kernel_rfl) rfl rfl trivial (fun hHeld => ?_); refine with_tabW incipitlaw12_GroupMany.tab12 incipitlaw12_GroupMany.bits12 (fun HT_ HW_ => ?_)
                   generalize w26.drew = w27 at HO_8 HB hHeld ⊢
                   refine pure_ (i := 0) (N := some 50) (v := ?_) (a' := ?_) #[true, false, false, false, false, false, false, false, false, false, false] rfl rfl (any_of HT_.out (by kernel_rfl)) (fun _ _ _ h => h) (Or.inl ⟨by rfl, ?_⟩) ?_ ?_
                   rotate_left
                   · intro w'
                     go_simp
                     with_reducible rfl
                   rotate_left
                   · simp only [Act.put, List.setIfInBounds_toArray, List.set_cons_zero, List.set_cons_succ, i64_w, i32_w]
                     rfl
                   refine pure_ (i := 3) (N := some 53) (v := ?_) (a' := ?_) #[true, false, false, true, false, false, false, false, false, false, false] rfl rfl (any_of HT_.out (by kernel_rfl)) (fun _ _ _ h => h) (Or.inl ⟨by rfl, ?_⟩) ?_ ?_
                   rotate_left
                   · intro w'
                     go_simp
                     with_reducible rfl
                   rotate_left
                   · simp only [Act.put, List.setIfInBounds_toArray, List.set_cons_zero, List.set_cons_succ, i64_w, i32_w]
                     rfl
                   refine pure_ (i := 4) (N := some 54) (v := ?_) (a' := ?_) #[true, false, false, true, true, false, false, false, false, false, false] rfl rfl (any_of HT_.out (by kernel_rfl)) (fun _ _ _ h => h) (Or.inl ⟨by rfl, ?_⟩) ?_ ?_
                   rotate_left
                   · intro w'
                     go_simp
                     with_reducible rfl
                   rotate_left
                   · simp only [Act.put, List.setIfInBounds_toArray, List.set_cons_zero, List.set_cons_succ, i64_w, i32_w]
                     rfl
                   refine join_ (σ := Value × Value) 4 #[true, true, true, true, true, true, true, false, false, false, false] (fun s_ => [(51, s_.1), (52, .string (strOfNums y300)), (55, s_.2), (56, .string (strOfNums y303))]) (fun s_ w' => (Kd.R (Kd.int .u8) 5 w' w.heap.size (fun k_ => some k_ ≠ (s_.2 : Value).ownBlock) s_.1 y300) ∧ (Kd.R (Kd.int .u8) 5 w' w.heap.size (fun k_ => some k_ ≠ (s_.1 : Value).ownBlock) s_.2 y303) ∧ (Kd.R k25 25 w' w.heap.size (fun _ => True) (.slice Ao25 x8_2.length co25) x8_2) ∧ (Below w.heap.size w w')) ?_ ?_
                   rotate_left
                   · intro hJ1_2_5_6
                     refine join_ (σ := Value × Value) 5 #[true, true, true, true, true, true, false, false, false, false, false] (fun s_ => [(51, s_.1), (52, .string (strOfNums y300)), (55, s_.2)]) (fun s_ w' => (Kd.R (Kd.int .u8) 5 w' w.heap.size (fun k_ => some k_ ≠ (s_.2 : Value).ownBlock) s_.1 y300) ∧ (Kd.R (Kd.int .u8) 5 w' w.heap.size (fun k_ => some k_ ≠ (s_.1 : Value).ownBlock) s_.2 y303) ∧ (Kd.R k25 25 w' w.heap.size (fun _ => True) (.slice Ao25 x8_2.length co25) x8_2) ∧ (Below w.heap.size w w')) ?_ ?_
                     rotate_left
                     · intro hJ1_2_5
                       refine join_ (σ := Value × Value) 5 #[true, true, false, true, true, true, true, false, false, false, false] (fun s_ => [(51, s_.1), (55, s_.2), (56, .string (strOfNums y303))]) (fun s_ w' => (Kd.R (Kd.int .u8) 5 w' w.heap.size (fun k_ => some k_ ≠ (s_.2 : Value).ownBlock) s_.1 y300) ∧ (Kd.R (Kd.int .u8) 5 w' w.heap.size (fun k_ => some k_ ≠ (s_.1 : Value).ownBlock) s_.2 y303) ∧ (Kd.R k25 25 w' w.heap.size (fun _ => True) (.slice Ao25 x8_2.length co25) x8_2) ∧ (Below w.heap.size w w')) ?_ ?_
                       rotate_left
                       · intro hJ1_5_6
                         refine join_ (σ := Value) 6 #[true, true, true, true, true, false, false, false, false, false, false] (fun s_ => [(51, s_), (52, .string (strOfNums y300))]) (fun s_ w' => (Kd.R (Kd.int .u8) 5 w' w.heap.size (fun _ => True) s_ y300) ∧ (Kd.R k25 25 w' w.heap.size (fun _ => True) (.slice Ao25 x8_2.length co25) x8_2) ∧ (Below w.heap.size w w')) ?_ ?_
                         rotate_left
                         · intro hJ1_2
                           refine join_ (σ := Value × Value) 6 #[true, true, false, true, true, true, false, false, false, false, false] (fun s_ => [(51, s_.1), (55, s_.2)]) (fun s_ w' => (Kd.R (Kd.int .u8) 5 w' w.heap.size (fun k_ => some k_ ≠ (s_.2 : Value).ownBlock) s_.1 y300) ∧ (Kd.R (Kd.int .u8) 5 w' w.heap.size (fun k_ => some k_ ≠ (s_.1 : Value).ownBlock) s_.2 y303) ∧ (Kd.R k25 25 w' w.heap.size (fun _ => True) (.slice Ao25 x8_2.length co25) x8_2) ∧ (Below w.heap.size w w')) ?_ ?_
                           rotate_left
                           · intro hJ1_5
                             refine join_ (σ := Value) 6 #[true, false, false, true, true, true, true, false, false, false, false] (fun s_ => [(55, s_), (56, .string (strOfNums y303))]) (fun s_ w' => (Kd.R (Kd.int .u8) 5 w' w.heap.size (fun _ => True) s_ y303) ∧ (Kd.R k25 25 w' w.heap.size (fun _ => True) (.slice Ao25 x8_2.length co25) x8_2) ∧ (Below w.heap.size w w')) ?_ ?_
                             rotate_left
                             · intro hJ5_6
                               refine join_ (σ := Value) 7 #[true, true, false, true, true, false, false, false, false, false, false] (fun s_ => [(51, s_)]) (fun s_ w' => (Kd.R (Kd.int .u8) 5 w' w.heap.size (fun _ => True) s_ y300) ∧ (Kd.R k25 25 w' w.heap.size (fun _ => True) (.slice Ao25 x8_2.length co25) x8_2) ∧ (Below w.heap.size w w')) ?_ ?_
                               rotate_left
                               · intro hJ1
                                 refine join_ (σ := Value) 7 #[true, false, false, true, true, true, false, false, false, false, false] (fun s_ => [(55, s_)]) (fun s_ w' => (Kd.R (Kd.int .u8) 5 w' w.heap.size (fun _ => True) s_ y303) ∧ (Kd.R k25 25 w' w.heap.size (fun _ => True) (.slice Ao25 x8_2.length co25) x8_2) ∧ (Below w.heap.size w w')) ?_ ?_
                                 rotate_left
                                 · intro hJ5
                                   refine two_ (i := 1) (j := 5) (Ni := some 51) (Nj := some 55) #[true, true, false, true, true, false, false, false, false, false, false] #[true, false, false, true, true, true, false, false, false, false, false] rfl rfl rfl rfl (two_of HT_.out (by kernel_rfl)) (by decide) (by decide) (fun K hK => ?_) (fun K hK => ?_)
                                   · skip
                                     refine Kd.R_make_step (Kd.int .u8) _ 5 (by rfl) (N := 51) rfl 28 _ _ rfl a1 rfl rfl Try.underlying28 (.int .u8 0) 1 info5 rfl (by decide) (by omega) 0 (ok := fun _ => True) (okp := fun _ => True) rfl (fun _ hk => hk) trivial (of_decide_eq_true (by first | (with_reducible assumption) | assumption)) (Nat.le_trans (Nat.mul_le_mul_right _ (of_decide_eq_true (by first | (with_reducible assumption) | assumption) : a1.toNat ≤ 281474976710656)) (by omega)) (Below.refl _ _) (Nat.le_refl _) ?_
                                     intro v301 w28 ho29 hb hg_ hnew_
                                     clear hg_ hnew_
                                     (first | rw [← Ny300.out] at ho29 | (simp only [Int.reduceToNat] at ho29; rw [← Ny300.out] at ho29))
                                     have n0_ := Aside0.mk (Kd.R_below (by (with_reducible repeat (first | apply Kd.R_alloc | apply Kd.R_drewN | apply Kd.R_drew)); exact HO_8.out) hb)
                                     have n1_ := Aside0.mk (Kd.R_lower ho29 (below_size (by repeat (first | (with_reducible first | exact HB.out | apply below_alloc | apply pw_below_drewN | apply below_drew1) | exact HB.out))))
                                     have n2_ := Aside0.mk (below_step (by repeat (first | (with_reducible first | exact HB.out | apply below_alloc | apply pw_below_drewN | apply below_drew1) | exact HB.out)) hb)
                                     clear HO_8
                                     clear HB
                                     have HO_8 := n0_
                                     have HO302 := n1_
                                     have HB := n2_
                                     clear n0_ n1_ n2_
                                     clear hb ho29
                                     refine hK.out _ _ trivial (fun hHeld => ?_)
                                     clear hK K
                                     refine norm_ (a' := ?_) ?_ ?_
                                     rotate_left
                                     · show Act.put _ (some 51) _ = _
                                       simp only [Act.put, List.setIfInBounds_toArray, List.set_cons_zero, List.set_cons_succ, i64_w, i32_w]
                                       rfl
                                     exact norm_ (by first | (simp only [putAll, Act.put, List.setIfInBounds_toArray, List.set_cons_zero, List.set_cons_succ]; done) | (simp only [putAll, Act.put, List.setIfInBounds_toArray, List.set_cons_zero, List.set_cons_succ]; rfl)) (hJ1 (v301) _ ⟨(by (with_reducible repeat (first | apply Kd.R_alloc | apply Kd.R_drewN | apply Kd.R_drew)); exact HO302.out), (by (with_reducible repeat (first | apply Kd.R_alloc | apply Kd.R_drewN | apply Kd.R_drew)); exact HO_8.out), (by repeat (first | (with_reducible first | exact HB.out | apply below_alloc | apply pw_below_drewN | apply below_drew1) | exact HB.out))⟩)
                                   · skip
                                     refine Kd.R_make_step (Kd.int .u8) _ 5 (by rfl) (N := 55) rfl 28 _ _ rfl ji20 rfl rfl Try.underlying28 (.int .u8 0) 1 info5 rfl (by decide) (by omega) 0 (ok := fun _ => True) (okp := fun _ => True) rfl (fun _ hk => hk) trivial (of_decide_eq_true (by first | (with_reducible assumption) | assumption)) (Nat.le_trans (Nat.mul_le_mul_right _ (of_decide_eq_true (by first | (with_reducible assumption) | assumption) : ji20.toNat ≤ 281474976710656)) (by omega)) (Below.refl _ _) (Nat.le_refl _) ?_
                                     intro v304 w28 ho29 hb hg_ hnew_
                                     clear hg_ hnew_
                                     (first | rw [← Ny303.out] at ho29 | (simp only [Int.reduceToNat] at ho29; rw [← Ny303.out] at ho29))
                                     have n0_ := Aside0.mk (Kd.R_below (by (with_reducible repeat (first | apply Kd.R_alloc | apply Kd.R_drewN | apply Kd.R_drew)); exact HO_8.out) hb)
                                     have n1_ := Aside0.mk (Kd.R_lower ho29 (below_size (by repeat (first | (with_reducible first | exact HB.out | apply below_alloc | apply pw_below_drewN | apply below_drew1) | exact HB.out))))
                                     have n2_ := Aside0.mk (below_step (by repeat (first | (with_reducible first | exact HB.out | apply below_alloc | apply pw_below_drewN | apply below_drew1) | exact HB.out)) hb)
                                     clear HO_8
                                     clear HB
                                     have HO_8 := n0_
                                     have HO305 := n1_
                                     have HB := n2_
                                     clear n0_ n1_ n2_
                                     clear hb ho29
                                     refine hK.out _ _ trivial (fun hHeld => ?_)
                                     clear hK K
                                     refine norm_ (a' := ?_) ?_ ?_
                                     rotate_left
                                     · show Act.put _ (some 55) _ = _
                                       simp only [Act.put, List.setIfInBounds_toArray, List.set_cons_zero, List.set_cons_succ, i64_w, i32_w]
                                       rfl
                                     exact norm_ (by first | (simp only [putAll, Act.put, List.setIfInBounds_toArray, List.set_cons_zero, List.set_cons_succ]; done) | (simp only [putAll, Act.put, List.setIfInBounds_toArray, List.set_cons_zero, List.set_cons_succ]; rfl)) (hJ5 (v304) _ ⟨(by (with_reducible repeat (first | apply Kd.R_alloc | apply Kd.R_drewN | apply Kd.R_drew)); exact HO305.out), (by (with_reducible repeat (first | apply Kd.R_alloc | apply Kd.R_drewN | apply Kd.R_drew)); exact HO_8.out), (by repeat (first | (with_reducible first | exact HB.out | apply below_alloc | apply pw_below_drewN | apply below_drew1) | exact HB.out))⟩)
                                 · skip
                                   rintro v304 w30 ⟨h0_, h1_, h2_⟩
                                   have n0_ : Aside0 (Kd.R (Kd.int .u8) 5 w30 w.heap.size (fun _ => True) v304 y303) := ⟨h0_⟩
                                   have n1_ : Aside0 (Kd.R k25 25 w30 w.heap.size (fun _ => True) (.slice Ao25 x8_2.length co25) x8_2) := ⟨h1_⟩
                                   have n2_ : Aside0 (Below w.heap.size w w30) := ⟨h2_⟩
                                   clear HO_8
                                   clear HB
                                   clear h0_ h1_ h2_
                                   have HO305 := n0_
                                   have HO_8 := n1_
                                   have HB := n2_
                                   clear n0_ n1_ n2_
                                   have hHeld := trivial
                                   refine norm_ (a' := ?_) ?_ ?_
                                   rotate_left
                                   · simp only [putAll, Act.put, List.setIfInBounds_toArray, List.set_cons_zero, List.set_cons_succ]
                                     rfl
                                   refine two_ (i := 1) (j := 6) (Ni := some 51) (Nj := some 56) #[true, true, false, true, true, true, false, false, false, false, false] #[true, false, false, true, true, true, true, false, false, false, false] rfl rfl rfl rfl (two_of HT_.out (by kernel_rfl)) (by decide) (by decide) (fun K hK => ?_) (fun K hK => ?_)
                                   · skip
                                     refine Kd.R_make_step (Kd.int .u8) _ 5 (by rfl) (N := 51) rfl 28 _ _ rfl a1 rfl rfl Try.underlying28 (.int .u8 0) 1 info5 rfl (by decide) (by omega) 0 (ok := fun _ => True) (okp := fun _ => True) rfl (fun _ hk => hk) trivial (of_decide_eq_true (by first | (with_reducible assumption) | assumption)) (Nat.le_trans (Nat.mul_le_mul_right _ (of_decide_eq_true (by first | (with_reducible assumption) | assumption) : a1.toNat ≤ 281474976710656)) (by omega)) (Below.refl _ _) (Nat.le_refl _) ?_
                                     intro v301 w31 ho32 hb hg_ hnew_
                                     clear hg_ hnew_
                                     (first | rw [← Ny300.out] at ho32 | (simp only [Int.reduceToNat] at ho32; rw [← Ny300.out] at ho32))
                                     have n0_ := Aside0.mk (Kd.R_below (by (with_reducible repeat (first | apply Kd.R_alloc | apply Kd.R_drewN | apply Kd.R_drew)); exact HO_8.out) hb)
                                     have n1_ := Aside0.mk (Kd.R_elder' (by (with_reducible repeat (first | apply Kd.R_alloc | apply Kd.R_drewN | apply Kd.R_drew)); exact HO305.out) (Kd.R_base ho32) hb)
                                     have n2_ := Aside0.mk (Kd.R_lower (Kd.R_new' ho32 (Kd.R_lt (by (with_reducible repeat (first | apply Kd.R_alloc | apply Kd.R_drewN | apply Kd.R_drew)); exact HO305.out))) (below_size (by repeat (first | (with_reducible first | exact HB.out | apply below_alloc | apply pw_below_drewN | apply below_drew1) | exact HB.out))))
                                     have n3_ := Aside0.mk (below_step (by repeat (first | (with_reducible first | exact HB.out | apply below_alloc | apply pw_below_drewN | apply below_drew1) | exact HB.out)) hb)
                                     clear HO_8
                                     clear HO305
                                     clear HB
                                     have HO_8 := n0_
                                     have HO305 := n1_
                                     have HO302 := n2_
                                     have HB := n3_
                                     clear n0_ n1_ n2_ n3_
                                     clear hb ho32
                                     refine hK.out _ _ trivial (fun hHeld => ?_)
                                     clear hK K
                                     refine norm_ (a' := ?_) ?_ ?_
                                     rotate_left
                                     · show Act.put _ (some 51) _ = _
                                       simp only [Act.put, List.setIfInBounds_toArray, List.set_cons_zero, List.set_cons_succ, i64_w, i32_w]
                                       rfl
                                     exact norm_ (by first | (simp only [putAll, Act.put, List.setIfInBounds_toArray, List.set_cons_zero, List.set_cons_succ]; done) | (simp only [putAll, Act.put, List.setIfInBounds_toArray, List.set_cons_zero, List.set_cons_succ]; rfl)) (hJ1_5 (v301, v304) _ ⟨(by (with_reducible repeat (first | apply Kd.R_alloc | apply Kd.R_drewN | apply Kd.R_drew)); exact Kd.R_mono HO302.out (fun _ hk => hk.2)), (by (with_reducible repeat (first | apply Kd.R_alloc | apply Kd.R_drewN | apply Kd.R_drew)); exact Kd.R_mono HO305.out (fun _ hk => hk.2)), (by (with_reducible repeat (first | apply Kd.R_alloc | apply Kd.R_drewN | apply Kd.R_drew)); exact HO_8.out), (by repeat (first | (with_reducible first | exact HB.out | apply below_alloc | apply pw_below_drewN | apply below_drew1) | exact HB.out))⟩)
                                   · skip
                                     have hcv31 := own_string (P := Try.prog) Try.underlying28 Try.underlying5 Try.underlying9 (Kd.own_of_R HO305.out)
                                     refine value_ (w1 := ?_) (v := ?_) (by rfl) rfl ?_ ?_
                                     rotate_left 2
                                     · go_simp
                                       constructor
                                       · rfl
                                       · rfl
                                     clear hcv31
                                     refine hK.out _ _ trivial (fun hHeld => ?_)
                                     clear hK K
                                     refine norm_ (a' := ?_) ?_ ?_
                                     rotate_left
                                     · show Act.put _ (some 56) _ = _
                                       simp only [Act.put, List.setIfInBounds_toArray, List.set_cons_zero, List.set_cons_succ, i64_w, i32_w]
                                       rfl
                                     exact norm_ (by first | (simp only [putAll, Act.put, List.setIfInBounds_toArray, List.set_cons_zero, List.set_cons_succ]; done) | (simp only [putAll, Act.put, List.setIfInBounds_toArray, List.set_cons_zero, List.set_cons_succ]; rfl)) (hJ5_6 (v304) _ ⟨(by (with_reducible repeat (first | apply Kd.R_alloc | apply Kd.R_drewN | apply Kd.R_drew)); exact HO305.out), (by (with_reducible repeat (first | apply Kd.R_alloc | apply Kd.R_drewN | apply Kd.R_drew)); exact HO_8.out), (by repeat (first | (with_reducible first | exact HB.out | apply below_alloc | apply pw_below_drewN | apply below_drew1) | exact HB.out))⟩)
                               · skip
                                 rintro v301 w30 ⟨h0_, h1_, h2_⟩
                                 have n0_ : Aside0 (Kd.R (Kd.int .u8) 5 w30 w.heap.size (fun _ => True) v301 y300) := ⟨h0_⟩
                                 have n1_ : Aside0 (Kd.R k25 25 w30 w.heap.size (fun _ => True) (.slice Ao25 x8_2.length co25) x8_2) := ⟨h1_⟩
                                 have n2_ : Aside0 (Below w.heap.size w w30) := ⟨h2_⟩
                                 clear HO_8
                                 clear HB
                                 clear h0_ h1_ h2_
                                 have HO302 := n0_
                                 have HO_8 := n1_
                                 have HB := n2_
                                 clear n0_ n1_ n2_
                                 have hHeld := trivial
                                 refine norm_ (a' := ?_) ?_ ?_
                                 rotate_left
                                 · simp only [putAll, Act.put, List.setIfInBounds_toArray, List.set_cons_zero, List.set_cons_succ]
                                   rfl
                                 refine two_ (i := 2) (j := 5) (Ni := some 52) (Nj := some 55) #[true, true, true, true, true, false, false, false, false, false, false] #[true, true, false, true, true, true, false, false, false, false, false] rfl rfl rfl rfl (two_of HT_.out (by kernel_rfl)) (by decide) (by decide) (fun K hK => ?_) (fun K hK => ?_)
                                 · skip
                                   have hcv31 := own_string (P := Try.prog) Try.underlying28 Try.underlying5 Try.underlying9 (Kd.own_of_R HO302.out)
                                   refine value_ (w1 := ?_) (v := ?_) (by rfl) rfl ?_ ?_
                                   rotate_left 2
                                   · go_simp
                                     constructor
                                     · rfl
                                     · rfl
                                   clear hcv31
                                   refine hK.out _ _ trivial (fun hHeld => ?_)
                                   clear hK K
                                   refine norm_ (a' := ?_) ?_ ?_
                                   rotate_left
                                   · show Act.put _ (some 52) _ = _
                                     simp only [Act.put, List.setIfInBounds_toArray, List.set_cons_zero, List.set_cons_succ, i64_w, i32_w]
                                     rfl
                                   exact norm_ (by first | (simp only [putAll, Act.put, List.setIfInBounds_toArray, List.set_cons_zero, List.set_cons_succ]; done) | (simp only [putAll, Act.put, List.setIfInBounds_toArray, List.set_cons_zero, List.set_cons_succ]; rfl)) (hJ1_2 (v301) _ ⟨(by (with_reducible repeat (first | apply Kd.R_alloc | apply Kd.R_drewN | apply Kd.R_drew)); exact HO302.out), (by (with_reducible repeat (first | apply Kd.R_alloc | apply Kd.R_drewN | apply Kd.R_drew)); exact HO_8.out), (by repeat (first | (with_reducible first | exact HB.out | apply below_alloc | apply pw_below_drewN | apply below_drew1) | exact HB.out))⟩)
                                 · skip
                                   refine Kd.R_make_step (Kd.int .u8) _ 5 (by rfl) (N := 55) rfl 28 _ _ rfl ji20 rfl rfl Try.underlying28 (.int .u8 0) 1 info5 rfl (by decide) (by omega) 0 (ok := fun _ => True) (okp := fun _ => True) rfl (fun _ hk => hk) trivial (of_decide_eq_true (by first | (with_reducible assumption) | assumption)) (Nat.le_trans (Nat.mul_le_mul_right _ (of_decide_eq_true (by first | (with_reducible assumption) | assumption) : ji20.toNat ≤ 281474976710656)) (by omega)) (Below.refl _ _) (Nat.le_refl _) ?_
                                   intro v304 w31 ho32 hb hg_ hnew_
                                   clear hg_ hnew_
                                   (first | rw [← Ny303.out] at ho32 | (simp only [Int.reduceToNat] at ho32; rw [← Ny303.out] at ho32))
                                   have n0_ := Aside0.mk (Kd.R_below (by (with_reducible repeat (first | apply Kd.R_alloc | apply Kd.R_drewN | apply Kd.R_drew)); exact HO_8.out) hb)
                                   have n1_ := Aside0.mk (Kd.R_elder' (by (with_reducible repeat (first | apply Kd.R_alloc | apply Kd.R_drewN | apply Kd.R_drew)); exact HO302.out) (Kd.R_base ho32) hb)
                                   have n2_ := Aside0.mk (Kd.R_lower (Kd.R_new' ho32 (Kd.R_lt (by (with_reducible repeat (first | apply Kd.R_alloc | apply Kd.R_drewN | apply Kd.R_drew)); exact HO302.out))) (below_size (by repeat (first | (with_reducible first | exact HB.out | apply below_alloc | apply pw_below_drewN | apply below_drew1) | exact HB.out))))
                                   have n3_ := Aside0.mk (below_step (by repeat (first | (with_reducible first | exact HB.out | apply below_alloc | apply pw_below_drewN | apply below_drew1) | exact HB.out)) hb)
                                   clear HO_8
                                   clear HO302
                                   clear HB
                                   have HO_8 := n0_
                                   have HO302 := n1_
                                   have HO305 := n2_
                                   have HB := n3_
                                   clear n0_ n1_ n2_ n3_
                                   clear hb ho32
                                   refine hK.out _ _ trivial (fun hHeld => ?_)
                                   clear hK K
                                   refine norm_ (a' := ?_) ?_ ?_
                                   rotate_left
                                   · show Act.put _ (some 55) _ = _
                                     simp only [Act.put, List.setIfInBounds_toArray, List.set_cons_zero, List.set_cons_succ, i64_w, i32_w]
                                     rfl
                                   exact norm_ (by first | (simp only [putAll, Act.put, List.setIfInBounds_toArray, List.set_cons_zero, List.set_cons_succ]; done) | (simp only [putAll, Act.put, List.setIfInBounds_toArray, List.set_cons_zero, List.set_cons_succ]; rfl)) (hJ1_5 (v301, v304) _ ⟨(by (with_reducible repeat (first | apply Kd.R_alloc | apply Kd.R_drewN | apply Kd.R_drew)); exact Kd.R_mono HO302.out (fun _ hk => hk.2)), (by (with_reducible repeat (first | apply Kd.R_alloc | apply Kd.R_drewN | apply Kd.R_drew)); exact Kd.R_mono HO305.out (fun _ hk => hk.2)), (by (with_reducible repeat (first | apply Kd.R_alloc | apply Kd.R_drewN | apply Kd.R_drew)); exact HO_8.out), (by repeat (first | (with_reducible first | exact HB.out | apply below_alloc | apply pw_below_drewN | apply below_drew1) | exact HB.out))⟩)
                             · skip
                               rintro v304 w31 ⟨h0_, h1_, h2_⟩
                               have n0_ : Aside0 (Kd.R (Kd.int .u8) 5 w31 w.heap.size (fun _ => True) v304 y303) := ⟨h0_⟩
                               have n1_ : Aside0 (Kd.R k25 25 w31 w.heap.size (fun _ => True) (.slice Ao25 x8_2.length co25) x8_2) := ⟨h1_⟩
                               have n2_ : Aside0 (Below w.heap.size w w31) := ⟨h2_⟩
                               clear HO_8
                               clear HB
                               clear h0_ h1_ h2_
                               have HO305 := n0_
                               have HO_8 := n1_
                               have HB := n2_
                               clear n0_ n1_ n2_
                               have hHeld := trivial
                               refine norm_ (a' := ?_) ?_ ?_
                               rotate_left
                               · simp only [putAll, Act.put, List.setIfInBounds_toArray, List.set_cons_zero, List.set_cons_succ]
                                 rfl
                               refine one_ (i := 1) (N := some 51) #[true, true, false, true, true, true, true, false, false, false, false] rfl rfl (one_of HT_.out (by kernel_rfl)) (by decide) (fun K hK => ?_)
                               refine Kd.R_make_step (Kd.int .u8) _ 5 (by rfl) (N := 51) rfl 28 _ _ rfl a1 rfl rfl Try.underlying28 (.int .u8 0) 1 info5 rfl (by decide) (by omega) 0 (ok := fun _ => True) (okp := fun _ => True) rfl (fun _ hk => hk) trivial (of_decide_eq_true (by first | (with_reducible assumption) | assumption)) (Nat.le_trans (Nat.mul_le_mul_right _ (of_decide_eq_true (by first | (with_reducible assumption) | assumption) : a1.toNat ≤ 281474976710656)) (by omega)) (Below.refl _ _) (Nat.le_refl _) ?_
                               intro v301 w32 ho33 hb hg_ hnew_
                               clear hg_ hnew_
                               (first | rw [← Ny300.out] at ho33 | (simp only [Int.reduceToNat] at ho33; rw [← Ny300.out] at ho33))
                               have n0_ := Aside0.mk (Kd.R_below (by (with_reducible repeat (first | apply Kd.R_alloc | apply Kd.R_drewN | apply Kd.R_drew)); exact HO_8.out) hb)
                               have n1_ := Aside0.mk (Kd.R_elder' (by (with_reducible repeat (first | apply Kd.R_alloc | apply Kd.R_drewN | apply Kd.R_drew)); exact HO305.out) (Kd.R_base ho33) hb)
                               have n2_ := Aside0.mk (Kd.R_lower (Kd.R_new' ho33 (Kd.R_lt (by (with_reducible repeat (first | apply Kd.R_alloc | apply Kd.R_drewN | apply Kd.R_drew)); exact HO305.out))) (below_size (by repeat (first | (with_reducible first | exact HB.out | apply below_alloc | apply pw_below_drewN | apply below_drew1) | exact HB.out))))
                               have n3_ := Aside0.mk (below_step (by repeat (first | (with_reducible first | exact HB.out | apply below_alloc | apply pw_below_drewN | apply below_drew1) | exact HB.out)) hb)
                               clear HO_8
                               clear HO305
                               clear HB
                               have HO_8 := n0_
                               have HO305 := n1_
                               have HO302 := n2_
                               have HB := n3_
                               clear n0_ n1_ n2_ n3_
                               clear hb ho33
                               refine hK.out _ _ trivial (fun hHeld => ?_)
                               clear hK K
                               refine norm_ (a' := ?_) ?_ ?_
                               rotate_left
                               · show Act.put _ (some 51) _ = _
                                 simp only [Act.put, List.setIfInBounds_toArray, List.set_cons_zero, List.set_cons_succ, i64_w, i32_w]
                                 rfl
                               exact norm_ (by first | (simp only [putAll, Act.put, List.setIfInBounds_toArray, List.set_cons_zero, List.set_cons_succ]; done) | (simp only [putAll, Act.put, List.setIfInBounds_toArray, List.set_cons_zero, List.set_cons_succ]; rfl)) (hJ1_5_6 (v301, v304) _ ⟨(by (with_reducible repeat (first | apply Kd.R_alloc | apply Kd.R_drewN | apply Kd.R_drew)); exact Kd.R_mono HO302.out (fun _ hk => hk.2)), (by (with_reducible repeat (first | apply Kd.R_alloc | apply Kd.R_drewN | apply Kd.R_drew)); exact Kd.R_mono HO305.out (fun _ hk => hk.2)), (by (with_reducible repeat (first | apply Kd.R_alloc | apply Kd.R_drewN | apply Kd.R_drew)); exact HO_8.out), (by repeat (first | (with_reducible first | exact HB.out | apply below_alloc | apply pw_below_drewN | apply below_drew1) | exact HB.out))⟩)
                           · skip
                             rintro ⟨v301, v304⟩ w32 ⟨h0_, h1_, h2_, h3_⟩
                             have n0_ : Aside0 (Kd.R (Kd.int .u8) 5 w32 w.heap.size (fun k_ => some k_ ≠ (v304 : Value).ownBlock) v301 y300) := ⟨h0_⟩
                             have n1_ : Aside0 (Kd.R (Kd.int .u8) 5 w32 w.heap.size (fun k_ => some k_ ≠ (v301 : Value).ownBlock) v304 y303) := ⟨h1_⟩
                             have n2_ : Aside0 (Kd.R k25 25 w32 w.heap.size (fun _ => True) (.slice Ao25 x8_2.length co25) x8_2) := ⟨h2_⟩
                             have n3_ : Aside0 (Below w.heap.size w w32) := ⟨h3_⟩
                             clear HO_8
                             clear HB
                             clear h0_ h1_ h2_ h3_
                             have HO302 := n0_
                             have HO305 := n1_
                             have HO_8 := n2_
                             have HB := n3_
                             clear n0_ n1_ n2_ n3_
                             have hHeld := trivial
                             refine norm_ (a' := ?_) ?_ ?_
                             rotate_left
                             · simp only [putAll, Act.put, List.setIfInBounds_toArray, List.set_cons_zero, List.set_cons_succ]
                               rfl
                             refine two_ (i := 2) (j := 6) (Ni := some 52) (Nj := some 56) #[true, true, true, true, true, true, false, false, false, false, false] #[true, true, false, true, true, true, true, false, false, false, false] rfl rfl rfl rfl (two_of HT_.out (by kernel_rfl)) (by decide) (by decide) (fun K hK => ?_) (fun K hK => ?_)
                             · skip
                               have hcv33 := own_string (P := Try.prog) Try.underlying28 Try.underlying5 Try.underlying9 (Kd.own_of_R HO302.out)
                               refine value_ (w1 := ?_) (v := ?_) (by rfl) rfl ?_ ?_
                               rotate_left 2
                               · go_simp
                                 constructor
                                 · rfl
                                 · rfl
                               clear hcv33
                               refine hK.out _ _ trivial (fun hHeld => ?_)
                               clear hK K
                               refine norm_ (a' := ?_) ?_ ?_
                               rotate_left
                               · show Act.put _ (some 52) _ = _
                                 simp only [Act.put, List.setIfInBounds_toArray, List.set_cons_zero, List.set_cons_succ, i64_w, i32_w]
                                 rfl
                               exact norm_ (by first | (simp only [putAll, Act.put, List.setIfInBounds_toArray, List.set_cons_zero, List.set_cons_succ]; done) | (simp only [putAll, Act.put, List.setIfInBounds_toArray, List.set_cons_zero, List.set_cons_succ]; rfl)) (hJ1_2_5 (v301, v304) _ ⟨(by (with_reducible repeat (first | apply Kd.R_alloc | apply Kd.R_drewN | apply Kd.R_drew)); exact HO302.out), (by (with_reducible repeat (first | apply Kd.R_alloc | apply Kd.R_drewN | apply Kd.R_drew)); exact HO305.out), (by (with_reducible repeat (first | apply Kd.R_alloc | apply Kd.R_drewN | apply Kd.R_drew)); exact HO_8.out), (by repeat (first | (with_reducible first | exact HB.out | apply below_alloc | apply pw_below_drewN | apply below_drew1) | exact HB.out))⟩)
                             · skip
                               have hcv33 := own_string (P := Try.prog) Try.underlying28 Try.underlying5 Try.underlying9 (Kd.own_of_R HO305.out)
                               refine value_ (w1 := ?_) (v := ?_) (by rfl) rfl ?_ ?_
                               rotate_left 2
                               · go_simp
                                 constructor
                                 · rfl
                                 · rfl
                               clear hcv33
                               refine hK.out _ _ trivial (fun hHeld => ?_)
                               clear hK K
                               refine norm_ (a' := ?_) ?_ ?_
                               rotate_left
                               · show Act.put _ (some 56) _ = _
                                 simp only [Act.put, List.setIfInBounds_toArray, List.set_cons_zero, List.set_cons_succ, i64_w, i32_w]
                                 rfl
                               exact norm_ (by first | (simp only [putAll, Act.put, List.setIfInBounds_toArray, List.set_cons_zero, List.set_cons_succ]; done) | (simp only [putAll, Act.put, List.setIfInBounds_toArray, List.set_cons_zero, List.set_cons_succ]; rfl)) (hJ1_5_6 (v301, v304) _ ⟨(by (with_reducible repeat (first | apply Kd.R_alloc | apply Kd.R_drewN | apply Kd.R_drew)); exact HO302.out), (by (with_reducible repeat (first | apply Kd.R_alloc | apply Kd.R_drewN | apply Kd.R_drew)); exact HO305.out), (by (with_reducible repeat (first | apply Kd.R_alloc | apply Kd.R_drewN | apply Kd.R_drew)); exact HO_8.out), (by repeat (first | (with_reducible first | exact HB.out | apply below_alloc | apply pw_below_drewN | apply below_drew1) | exact HB.out))⟩)
                         · skip
                           rintro v301 w31 ⟨h0_, h1_, h2_⟩
                           have n0_ : Aside0 (Kd.R (Kd.int .u8) 5 w31 w.heap.size (fun _ => True) v301 y300) := ⟨h0_⟩
                           have n1_ : Aside0 (Kd.R k25 25 w31 w.heap.size (fun _ => True) (.slice Ao25 x8_2.length co25) x8_2) := ⟨h1_⟩
                           have n2_ : Aside0 (Below w.heap.size w w31) := ⟨h2_⟩
                           clear HO_8
                           clear HB
                           clear h0_ h1_ h2_
                           have HO302 := n0_
                           have HO_8 := n1_
                           have HB := n2_
                           clear n0_ n1_ n2_
                           have hHeld := trivial
                           refine norm_ (a' := ?_) ?_ ?_
                           rotate_left
                           · simp only [putAll, Act.put, List.setIfInBounds_toArray, List.set_cons_zero, List.set_cons_succ]
                             rfl
                           refine one_ (i := 5) (N := some 55) #[true, true, true, true, true, true, false, false, false, false, false] rfl rfl (one_of HT_.out (by kernel_rfl)) (by decide) (fun K hK => ?_)
                           refine Kd.R_make_step (Kd.int .u8) _ 5 (by rfl) (N := 55) rfl 28 _ _ rfl ji20 rfl rfl Try.underlying28 (.int .u8 0) 1 info5 rfl (by decide) (by omega) 0 (ok := fun _ => True) (okp := fun _ => True) rfl (fun _ hk => hk) trivial (of_decide_eq_true (by first | (with_reducible assumption) | assumption)) (Nat.le_trans (Nat.mul_le_mul_right _ (of_decide_eq_true (by first | (with_reducible assumption) | assumption) : ji20.toNat ≤ 281474976710656)) (by omega)) (Below.refl _ _) (Nat.le_refl _) ?_
                           intro v304 w32 ho33 hb hg_ hnew_
                           clear hg_ hnew_
                           (first | rw [← Ny303.out] at ho33 | (simp only [Int.reduceToNat] at ho33; rw [← Ny303.out] at ho33))
                           have n0_ := Aside0.mk (Kd.R_below (by (with_reducible repeat (first | apply Kd.R_alloc | apply Kd.R_drewN | apply Kd.R_drew)); exact HO_8.out) hb)
                           have n1_ := Aside0.mk (Kd.R_elder' (by (with_reducible repeat (first | apply Kd.R_alloc | apply Kd.R_drewN | apply Kd.R_drew)); exact HO302.out) (Kd.R_base ho33) hb)
                           have n2_ := Aside0.mk (Kd.R_lower (Kd.R_new' ho33 (Kd.R_lt (by (with_reducible repeat (first | apply Kd.R_alloc | apply Kd.R_drewN | apply Kd.R_drew)); exact HO302.out))) (below_size (by repeat (first | (with_reducible first | exact HB.out | apply below_alloc | apply pw_below_drewN | apply below_drew1) | exact HB.out))))
                           have n3_ := Aside0.mk (below_step (by repeat (first | (with_reducible first | exact HB.out | apply below_alloc | apply pw_below_drewN | apply below_drew1) | exact HB.out)) hb)
                           clear HO_8
                           clear HO302
                           clear HB
                           have HO_8 := n0_
                           have HO302 := n1_
                           have HO305 := n2_
                           have HB := n3_
                           clear n0_ n1_ n2_ n3_
                           clear hb ho33
                           refine hK.out _ _ trivial (fun hHeld => ?_)
                           clear hK K
                           refine norm_ (a' := ?_) ?_ ?_
                           rotate_left
                           · show Act.put _ (some 55) _ = _
                             simp only [Act.put, List.setIfInBounds_toArray, List.set_cons_zero, List.set_cons_succ, i64_w, i32_w]
                             rfl
                           exact norm_ (by first | (simp only [putAll, Act.put, List.setIfInBounds_toArray, List.set_cons_zero, List.set_cons_succ]; done) | (simp only [putAll, Act.put, List.setIfInBounds_toArray, List.set_cons_zero, List.set_cons_succ]; rfl)) (hJ1_2_5 (v301, v304) _ ⟨(by (with_reducible repeat (first | apply Kd.R_alloc | apply Kd.R_drewN | apply Kd.R_drew)); exact Kd.R_mono HO302.out (fun _ hk => hk.2)), (by (with_reducible repeat (first | apply Kd.R_alloc | apply Kd.R_drewN | apply Kd.R_drew)); exact Kd.R_mono HO305.out (fun _ hk => hk.2)), (by (with_reducible repeat (first | apply Kd.R_alloc | apply Kd.R_drewN | apply Kd.R_drew)); exact HO_8.out), (by repeat (first | (with_reducible first | exact HB.out | apply below_alloc | apply pw_below_drewN | apply below_drew1) | exact HB.out))⟩)
                       · skip
                         rintro ⟨v301, v304⟩ w33 ⟨h0_, h1_, h2_, h3_⟩
                         have n0_ : Aside0 (Kd.R (Kd.int .u8) 5 w33 w.heap.size (fun k_ => some k_ ≠ (v304 : Value).ownBlock) v301 y300) := ⟨h0_⟩
                         have n1_ : Aside0 (Kd.R (Kd.int .u8) 5 w33 w.heap.size (fun k_ => some k_ ≠ (v301 : Value).ownBlock) v304 y303) := ⟨h1_⟩
                         have n2_ : Aside0 (Kd.R k25 25 w33 w.heap.size (fun _ => True) (.slice Ao25 x8_2.length co25) x8_2) := ⟨h2_⟩
                         have n3_ : Aside0 (Below w.heap.size w w33) := ⟨h3_⟩
                         clear HO_8
                         clear HB
                         clear h0_ h1_ h2_ h3_
                         have HO302 := n0_
                         have HO305 := n1_
                         have HO_8 := n2_
                         have HB := n3_
                         clear n0_ n1_ n2_ n3_
                         have hHeld := trivial
                         refine norm_ (a' := ?_) ?_ ?_
                         rotate_left
                         · simp only [putAll, Act.put, List.setIfInBounds_toArray, List.set_cons_zero, List.set_cons_succ]
                           rfl
                         refine one_ (i := 2) (N := some 52) #[true, true, true, true, true, true, true, false, false, false, false] rfl rfl (one_of HT_.out (by kernel_rfl)) (by decide) (fun K hK => ?_)
                         have hcv34 := own_string (P := Try.prog) Try.underlying28 Try.underlying5 Try.underlying9 (Kd.own_of_R HO302.out)
                         refine value_ (w1 := ?_) (v := ?_) (by rfl) rfl ?_ ?_
                         rotate_left 2
                         · go_simp
                           constructor
                           · rfl
                           · rfl
                         clear hcv34
                         refine hK.out _ _ trivial (fun hHeld => ?_)
                         clear hK K
                         refine norm_ (a' := ?_) ?_ ?_
                         rotate_left
                         · show Act.put _ (some 52) _ = _
                           simp only [Act.put, List.setIfInBounds_toArray, List.set_cons_zero, List.set_cons_succ, i64_w, i32_w]
                           rfl
                         exact norm_ (by first | (simp only [putAll, Act.put, List.setIfInBounds_toArray, List.set_cons_zero, List.set_cons_succ]; done) | (simp only [putAll, Act.put, List.setIfInBounds_toArray, List.set_cons_zero, List.set_cons_succ]; rfl)) (hJ1_2_5_6 (v301, v304) _ ⟨(by (with_reducible repeat (first | apply Kd.R_alloc | apply Kd.R_drewN | apply Kd.R_drew)); exact HO302.out), (by (with_reducible repeat (first | apply Kd.R_alloc | apply Kd.R_drewN | apply Kd.R_drew)); exact HO305.out), (by (with_reducible repeat (first | apply Kd.R_alloc | apply Kd.R_drewN | apply Kd.R_drew)); exact HO_8.out), (by repeat (first | (with_reducible first | exact HB.out | apply below_alloc | apply pw_below_drewN | apply below_drew1) | exact HB.out))⟩)
                     · skip
                       rintro ⟨v301, v304⟩ w33 ⟨h0_, h1_, h2_, h3_⟩
                       have n0_ : Aside0 (Kd.R (Kd.int .u8) 5 w33 w.heap.size (fun k_ => some k_ ≠ (v304 : Value).ownBlock) v301 y300) := ⟨h0_⟩
                       have n1_ : Aside0 (Kd.R (Kd.int .u8) 5 w33 w.heap.size (fun k_ => some k_ ≠ (v301 : Value).ownBlock) v304 y303) := ⟨h1_⟩
                       have n2_ : Aside0 (Kd.R k25 25 w33 w.heap.size (fun _ => True) (.slice Ao25 x8_2.length co25) x8_2) := ⟨h2_⟩
                       have n3_ : Aside0 (Below w.heap.size w w33) := ⟨h3_⟩
                       clear HO_8
                       clear HB
                       clear h0_ h1_ h2_ h3_
                       have HO302 := n0_
                       have HO305 := n1_
                       have HO_8 := n2_
                       have HB := n3_
                       clear n0_ n1_ n2_ n3_
                       have hHeld := trivial
                       refine norm_ (a' := ?_) ?_ ?_
                       rotate_left
                       · simp only [putAll, Act.put, List.setIfInBounds_toArray, List.set_cons_zero, List.set_cons_succ]
                         rfl
                       refine one_ (i := 6) (N := some 56) #[true, true, true, true, true, true, true, false, false, false, false] rfl rfl (one_of HT_.out (by kernel_rfl)) (by decide) (fun K hK => ?_)
                       have hcv34 := own_string (P := Try.prog) Try.underlying28 Try.underlying5 Try.underlying9 (Kd.own_of_R HO305.out)
                       refine value_ (w1 := ?_) (v := ?_) (by rfl) rfl ?_ ?_
                       rotate_left 2
                       · go_simp
                         constructor
                         · rfl
                         · rfl
                       clear hcv34
                       refine hK.out _ _ trivial (fun hHeld => ?_)
                       clear hK K
                       refine norm_ (a' := ?_) ?_ ?_
                       rotate_left
                       · show Act.put _ (some 56) _ = _
                         simp only [Act.put, List.setIfInBounds_toArray, List.set_cons_zero, List.set_cons_succ, i64_w, i32_w]
                         rfl
                       exact norm_ (by first | (simp only [putAll, Act.put, List.setIfInBounds_toArray, List.set_cons_zero, List.set_cons_succ]; done) | (simp only [putAll, Act.put, List.setIfInBounds_toArray, List.set_cons_zero, List.set_cons_succ]; rfl)) (hJ1_2_5_6 (v301, v304) _ ⟨(by (with_reducible repeat (first | apply Kd.R_alloc | apply Kd.R_drewN | apply Kd.R_drew)); exact HO302.out), (by (with_reducible repeat (first | apply Kd.R_alloc | apply Kd.R_drewN | apply Kd.R_drew)); exact HO305.out), (by (with_reducible repeat (first | apply Kd.R_alloc | apply Kd.R_drewN | apply Kd.R_drew)); exact HO_8.out), (by repeat (first | (with_reducible first | exact HB.out | apply below_alloc | apply pw_below_drewN | apply below_drew1) | exact HB.out))⟩)
                   rintro ⟨v301, v304⟩ w34 ⟨h0_, h1_, h2_, h3_⟩
                   have n0_ : Aside0 (Kd.R (Kd.int .u8) 5 w34 w.heap.size (fun k_ => some k_ ≠ (v304 : Value).ownBlock) v301 y300) := ⟨h0_⟩
                   have n1_ : Aside0 (Kd.R (Kd.int .u8) 5 w34 w.heap.size (fun k_ => some k_ ≠ (v301 : Value).ownBlock) v304 y303) := ⟨h1_⟩
                   have n2_ : Aside0 (Kd.R k25 25 w34 w.heap.size (fun _ => True) (.slice Ao25 x8_2.length co25) x8_2) := ⟨h2_⟩
                   have n3_ : Aside0 (Below w.heap.size w w34) := ⟨h3_⟩
                   clear HO_8
                   clear HB
                   clear h0_ h1_ h2_ h3_
                   have HO302 := n0_
                   have HO305 := n1_
                   have HO_8 := n2_
                   have HB := n3_
                   clear n0_ n1_ n2_ n3_
                   have hHeld := trivial
                   refine norm_ (a' := ?_) ?_ ?_
                   rotate_left
                   · simp only [putAll, Act.put, List.setIfInBounds_toArray, List.set_cons_zero, List.set_cons_succ]
                     rfl
                   refine pure_ (i := 7) (N := some 57) (v := ?_) (a' := ?_) #[true, true, true, true, true, true, true, true, false, false, false] rfl rfl (any_of HT_.out (by kernel_rfl)) (fun _ _ _ h => h) (Or.inl ⟨by rfl, ?_⟩) ?_ ?_
                   rotate_left
                   · intro w'
                     go_simp
                     with_reducible rfl
                   rotate_left
                   · simp only [Act.put, List.setIfInBounds_toArray, List.set_cons_zero, List.set_cons_succ, i64_w, i32_w]
                     rfl
                   refine one_ (i := 8) (N := some 58) #[true, true, true, true, true, true, true, true, true, false, false] rfl rfl (one_of HT_.out (by kernel_rfl)) (by decide) (fun K hK => ?_)
                   refine Kd.R_lit_step k25 _ 25 ?hg (N := 58) ?hd (xs := ([(⟨1, strOfNums y300, strOfNums y303⟩ : S25)] : List (S25))) (inner := [.int .i64 1, .string (strOfNums y300), .string (strOfNums y303)]) (ok := fun _ => True) (okp := fun _ => True) ?hr ?hp (fun _ hk => hk) trivial (Below.refl _ _) (Nat.le_refl _) (by simp) ?_; (case hd => rfl); (case hg => rfl); (case hr => first | (go_simp; done) | (go_simp; rfl)); (case hp => exact (Reps.c3 (show Kd.M k25 _ _ _ (⟨1, strOfNums y300, strOfNums y303⟩ : S25) [.int .i64 1, .string (strOfNums y300), .string (strOfNums y303)] from (k25_mkM _ _ _ (⟨1, strOfNums y300, strOfNums y303⟩ : S25) )) (Reps.none _ _)))
                   intro v307 w35 ho36 hb hg_ hnew_
                   clear hg_ hnew_
                   (first | rw [← Ny306.out] at ho36 | (simp only [Int.reduceToNat] at ho36; rw [← Ny306.out] at ho36))
                   have n0_ := Aside0.mk (Kd.R_elder' (by (with_reducible repeat (first | apply Kd.R_alloc | apply Kd.R_drewN | apply Kd.R_drew)); exact HO_8.out) (Kd.R_base ho36) hb)
                   have n1_ := Aside0.mk (Kd.R_below (by (with_reducible repeat (first | apply Kd.R_alloc | apply Kd.R_drewN | apply Kd.R_drew)); exact HO302.out) hb)
                   have n2_ := Aside0.mk (Kd.R_below (by (with_reducible repeat (first | apply Kd.R_alloc | apply Kd.R_drewN | apply Kd.R_drew)); exact HO305.out) hb)
                   have n3_ := Aside0.mk (Kd.R_lower (Kd.R_new' ho36 (Kd.R_lt (by (with_reducible repeat (first | apply Kd.R_alloc | apply Kd.R_drewN | apply Kd.R_drew)); exact HO_8.out))) (below_size (by repeat (first | (with_reducible first | exact HB.out | apply below_alloc | apply pw_below_drewN | apply below_drew1) | exact HB.out))))
                   have n4_ := Aside0.mk (below_step (by repeat (first | (with_reducible first | exact HB.out | apply below_alloc | apply pw_below_drewN | apply below_drew1) | exact HB.out)) hb)
                   clear HO_8
                   clear HO302
                   clear HO305
                   clear HB
                   have HO_8 := n0_
                   have HO302 := n1_
                   have HO305 := n2_
                   have HO308 := n3_
                   have HB := n4_
                   clear n0_ n1_ n2_ n3_ n4_
                   clear hb ho36
                   obtain ⟨Ao37, co37, eo37⟩ := Kd.R_slice HO308.out
                   (first | subst eo37 | (injection eo37 with f1_ f2_ f3_; have f4_ := f1_.symm; have f5_ := f3_.symm; clear f1_ f2_ f3_; subst f4_; subst f5_))
                   refine hK.out _ _ trivial (fun hHeld => ?_)
                   clear hK K
                   refine norm_ (a' := ?_) ?_ ?_
                   rotate_left
                   · show Act.put _ (some 58) _ = _
                     simp only [Act.put, List.setIfInBounds_toArray, List.set_cons_zero, List.set_cons_succ, i64_w, i32_w]
                     rfl
                   refine one_ (i := 9) (N := some 59) #[true, true, true, true, true, true, true, true, true, true, false] rfl rfl (one_of HT_.out (by kernel_rfl)) (by decide) (fun K hK => ?_)
                   refine goes_ Try.func15 (by kernel_rfl) rfl #[.slice Ao37 y306.length co37] (by rfl) rfl rfl (by (try simp only [List.map_toArray, List.map_cons, List.map_nil]); first | done | rfl | (simp only [List.length_drop, List.length_take]; rfl)) ?_
                   with_reducible refine (batch_Check.calls k2 _ _ y306 t309 _ ?side1 ?side2 A23.out).mono ?_
                   (case side1 => repeat (first | exact (Kd.R_reads' HO308.out).2.2 | (with_reducible refine Kd.C_alloc ?_ _) | (with_reducible refine Kd.C_drewN ?_ _) | (with_reducible refine Kd.C_drew ?_)))
                   (case side2 => exact (Kd.R_reads' HO308.out).2.1)
                   rintro e w38 ⟨rfl, hb⟩
                   refine ⟨_, rfl, ?_⟩
                   have n0_ := Aside0.mk (Kd.R_below (by (with_reducible repeat (first | apply Kd.R_alloc | apply Kd.R_drewN | apply Kd.R_drew)); exact HO_8.out) hb)
                   have n1_ := Aside0.mk (Kd.R_below (by (with_reducible repeat (first | apply Kd.R_alloc | apply Kd.R_drewN | apply Kd.R_drew)); exact HO302.out) hb)
                   have n2_ := Aside0.mk (Kd.R_below (by (with_reducible repeat (first | apply Kd.R_alloc | apply Kd.R_drewN | apply Kd.R_drew)); exact HO305.out) hb)
                   have n3_ := Aside0.mk (Kd.R_below (by (with_reducible repeat (first | apply Kd.R_alloc | apply Kd.R_drewN | apply Kd.R_drew)); exact HO308.out) hb)
                   have n4_ := Aside0.mk (below_step (by repeat (first | (with_reducible first | exact HB.out | apply below_alloc | apply pw_below_drewN | apply below_drew1) | exact HB.out)) hb)
                   clear HO_8
                   clear HO302
                   clear HO305
                   clear HO308
                   clear HB
                   have HO_8 := n0_
                   have HO302 := n1_
                   have HO305 := n2_
                   have HO308 := n3_
                   have HB := n4_
                   clear n0_ n1_ n2_ n3_ n4_
                   (try clear hb)
                   (try clear hb2)
                   (try clear hk)
                   (try clear hi)
                   refine hK.out _ _ trivial (fun hHeld => ?_)
                   clear hK K
                   refine norm_ (a' := ?_) ?_ ?_
                   rotate_left
                   · show Act.put _ (some 59) _ = _
                     simp only [Act.put, List.setIfInBounds_toArray, List.set_cons_zero, List.set_cons_succ, i64_w, i32_w]
                     rfl
                   refine pure_ (i := 10) (N := some 11) (v := ?_) (a' := ?_) #[true, true, true, true, true, true, true, true, true, true, true] rfl rfl (any_of HT_.out (by kernel_rfl)) (fun _ _ _ h => h) (Or.inl ⟨by rfl, ?_⟩) ?_ ?_
                   rotate_left
                   · intro w'
                     go_simp
                     with_reducible rfl
                   rotate_left
                   · simp only [Act.put, List.setIfInBounds_toArray, List.set_cons_zero, List.set_cons_succ, i64_w, i32_w]
                     rfl
                   refine done_ (done_of HT_.out (by kernel_rfl)) ?_
                   go_upto_region 14 with (fail)
                   go_cut [65] (fun v65 wc => ∃ (kq : Nat) (x65_23 : Bool), v65 = .bool x65_23 ∧ Aside0 (incipitlaw12_GroupMany.j2 kq a1 a2 t299 t309 0 x65_23 = some r) ∧ Aside0 (kq ≤ k2) ∧ Aside0 (Below w.heap.size w wc))
                   case first =>
                    have H := HC24.out
                    clear HC24
                    by_cases c39 : a0 < 1
                    · rw [if_pos c39] at H
                      have c39b0 : decide (a0 < 1) = true := decide_eq_true c39
                      clear c39
                      (first | rw [c39b0] | (simp only [i64_w, i32_w]; rw [c39b0]) | skip)
                      have H' := Aside0.mk H
                      clear H
                      go_wp2
                      go_meet
                      case rel => exact ⟨_, (true), (by first | rfl | (simp; done) | (simp [*]; done)), H', ⟨by have := HJ5.out; have := HK2.out; first | omega | exact Nat.le_refl _⟩, ⟨by repeat (first | (with_reducible first | exact HB.out | apply below_alloc | apply pw_below_drewN | apply below_drew1) | exact HB.out)⟩⟩
                    · rw [if_neg c39] at H
                      have c39b0 : decide (a0 < 1) = false := decide_eq_false c39
                      clear c39
                      (first | rw [c39b0] | (simp only [i64_w, i32_w]; rw [c39b0]) | skip)
                      have H' := Aside0.mk H
                      clear H
                      go_wp2
                      go_meet
                      case rel => exact ⟨_, (decide (a0 > 50)), (by first | rfl | (simp; done) | (simp [*]; done)), H', ⟨by have := HJ5.out; have := HK2.out; first | omega | exact Nat.le_refl _⟩, ⟨by repeat (first | (with_reducible first | exact HB.out | apply below_alloc | apply pw_below_drewN | apply below_drew1) | exact HB.out)⟩⟩
                   case rest =>
                    clear HC24
                    (try clear c1); (try clear c2); (try clear p2); (try clear c3); (try clear hcv3); (try clear p6); (try clear c15); (try clear c19); (try clear c21); (try clear c21b0); (try clear c21b1); (try clear c22); (try clear c22b0); (try clear c22b1); (try clear hcv31); (try clear hcv33); (try clear hcv34); (try clear c39); (try clear c39b0)
                    obtain ⟨kq, x65_23, rfl, HA, HJ23, HB⟩ := hcut
                    cases kq with
                    | zero => exact absurd HA.out (by simp [incipitlaw12_GroupMany.j2])
                    | succ kj23 =>
                     have H := HA.out
                     clear HA
                     simp only [incipitlaw12_GroupMany.j2] at H
                     have HC40 := Aside0.mk H
                     clear H
                     go_upto_if 65 with (fail)
                     go_cut [12] (fun v12 wc => ∃ (kq : Nat) (x12_39 : Int), v12 = .int .i64 x12_39 ∧ Aside0 (incipitlaw12_GroupMany.j3 kq a1 a2 t299 t309 x12_39 = some r) ∧ Aside0 (kq ≤ kj23) ∧ Aside0 (Below w.heap.size w wc))
                     case first =>
                      have H := HC40.out
                      clear HC40
                      by_cases c41 : x65_23 = true
                      · subst c41
                        have H1 : (incipitlaw12_GroupMany.j3 kj23 a1 a2 t299 t309 12) = some r := by rw [if_pos rfl] at H; exact H
                        clear H
                        have H := H1
                        clear H1
                        have H' := Aside0.mk H
                        clear H
                        go_wp2
                        go_meet
                        case rel => exact ⟨_, (12), (by first | rfl | (simp; done) | (simp [*]; done)), H', ⟨by have := HJ5.out; have := HK2.out; have := HJ23.out; first | omega | exact Nat.le_refl _⟩, ⟨by repeat (first | (with_reducible first | exact HB.out | apply below_alloc | apply pw_below_drewN | apply below_drew1) | exact HB.out)⟩⟩
                      · replace c41 := Bool.eq_false_iff.mpr c41
                        subst c41
                        have H1 : (incipitlaw12_GroupMany.j3 kj23 a1 a2 t299 t309 0) = some r := by rw [if_neg (show ¬ (false = true) by decide)] at H; exact H
                        clear H
                        have H := H1
                        clear H1
                        have H' := Aside0.mk H
                        clear H
                        go_wp2
                        go_meet
                        case rel => exact ⟨_, (0), (by first | rfl | (simp; done) | (simp [*]; done)), H', ⟨by have := HJ5.out; have := HK2.out; have := HJ23.out; first | omega | exact Nat.le_refl _⟩, ⟨by repeat (first | (with_reducible first | exact HB.out | apply below_alloc | apply pw_below_drewN | apply below_drew1) | exact HB.out)⟩⟩
                     case rest =>
                      clear HC40
                      (try clear c1); (try clear c2); (try clear p2); (try clear c3); (try clear hcv3); (try clear c4); (try clear p6); (try clear c15); (try clear c19); (try clear c21); (try clear c21b0); (try clear c21b1); (try clear c22); (try clear c22b0); (try clear c22b1); (try clear hcv31); (try clear hcv33); (try clear hcv34); (try clear c39); (try clear c39b0); (try clear c41); (try clear p2); (try clear p6)
                      obtain ⟨kq, x12_39, rfl, HA, HJ39, HB⟩ := hcut
                      cases kq with
                      | zero => exact absurd HA.out (by simp [incipitlaw12_GroupMany.j3])
                      | succ kj39 =>
                       have H := HA.out
                       clear HA
                       simp only [incipitlaw12_GroupMany.j3] at H
                       by_cases c42 : a2 > 5
                       · rw [if_pos c42] at H
                         have c42b0 : decide (5 < a2) = true := decide_eq_true c42
                         clear c42
                         by_cases c43 : a1 < 1
                         · rw [if_pos c43] at H
                           have c43b0 : decide (a1 < 1) = true := decide_eq_true c43
                           clear c43
                           by_cases c44 : t299 = x12_39
                           · rw [if_pos c44] at H
                             have c44b0 : (t299 == x12_39) = true := beq_iff_eq.mpr c44
                             have c44b1 : (t299 != x12_39) = false := bne_eq_false_iff_eq.mpr c44
                             clear c44
                             obtain rfl := Option.some.inj H
                             go_wp2
                             go_ret
                             exact ⟨by first | rfl | (simp [errW_none, errW_some] <;> rfl) | (simp only [← hji20]; first | rfl | (simp [errW_none, errW_some] <;> rfl)) | (simp [*, errW_none, errW_some] <;> rfl) | (first | (simp (disch := omega) [w64_s, errW_none, errW_some]; done) | (simp (disch := omega) [w64_s, errW_none, errW_some] <;> rfl)), by repeat (first | (with_reducible first | exact HB.out | apply below_alloc | apply pw_below_drewN | apply below_drew1) | exact HB.out)⟩
                           · rw [if_neg c44] at H
                             exact absurd H (by simp)
                         · rw [if_neg c43] at H
                           have c43b0 : decide (a1 < 1) = false := decide_eq_false c43
                           clear c43
                           by_cases c45 : a1 > 4096
                           · rw [if_pos c45] at H
                             have c45b0 : decide (4096 < a1) = true := decide_eq_true c45
                             clear c45
                             by_cases c46 : t299 = x12_39
                             · rw [if_pos c46] at H
                               have c46b0 : (t299 == x12_39) = true := beq_iff_eq.mpr c46
                               have c46b1 : (t299 != x12_39) = false := bne_eq_false_iff_eq.mpr c46
                               clear c46
                               obtain rfl := Option.some.inj H
                               go_wp2
                               go_ret
                               exact ⟨by first | rfl | (simp [errW_none, errW_some] <;> rfl) | (simp only [← hji20]; first | rfl | (simp [errW_none, errW_some] <;> rfl)) | (simp [*, errW_none, errW_some] <;> rfl) | (first | (simp (disch := omega) [w64_s, errW_none, errW_some]; done) | (simp (disch := omega) [w64_s, errW_none, errW_some] <;> rfl)), by repeat (first | (with_reducible first | exact HB.out | apply below_alloc | apply pw_below_drewN | apply below_drew1) | exact HB.out)⟩
                             · rw [if_neg c46] at H
                               exact absurd H (by simp)
                           · rw [if_neg c45] at H
                             have c45b0 : decide (4096 < a1) = false := decide_eq_false c45
                             clear c45
                             by_cases c47 : t299 = x12_39
                             · rw [if_pos c47] at H
                               have c47b0 : (t299 == x12_39) = true := beq_iff_eq.mpr c47
                               have c47b1 : (t299 != x12_39) = false := bne_eq_false_iff_eq.mpr c47
                               clear c47
                               obtain rfl := Option.some.inj H
                               go_wp2
                               go_ret
                               exact ⟨by first | rfl | (simp [errW_none, errW_some] <;> rfl) | (simp only [← hji20]; first | rfl | (simp [errW_none, errW_some] <;> rfl)) | (simp [*, errW_none, errW_some] <;> rfl) | (first | (simp (disch := omega) [w64_s, errW_none, errW_some]; done) | (simp (disch := omega) [w64_s, errW_none, errW_some] <;> rfl)), by repeat (first | (with_reducible first | exact HB.out | apply below_alloc | apply pw_below_drewN | apply below_drew1) | exact HB.out)⟩
                             · rw [if_neg c47] at H
                               exact absurd H (by simp)
                       · rw [if_neg c42] at H
                         have c42b0 : decide (5 < a2) = false := decide_eq_false c42
                         clear c42
                         by_cases c48 : a1 < 1
                         · rw [if_pos c48] at H
                           have c48b0 : decide (a1 < 1) = true := decide_eq_true c48
                           clear c48
                           by_cases c49 : t299 = x12_39
                           · rw [if_pos c49] at H
                             have c49b0 : (t299 == x12_39) = true := beq_iff_eq.mpr c49
                             have c49b1 : (t299 != x12_39) = false := bne_eq_false_iff_eq.mpr c49
                             clear c49
                             obtain rfl := Option.some.inj H
                             go_wp2
                             go_ret
                             exact ⟨by first | rfl | (simp [errW_none, errW_some] <;> rfl) | (simp only [← hji20]; first | rfl | (simp [errW_none, errW_some] <;> rfl)) | (simp [*, errW_none, errW_some] <;> rfl) | (first | (simp (disch := omega) [w64_s, errW_none, errW_some]; done) | (simp (disch := omega) [w64_s, errW_none, errW_some] <;> rfl)), by repeat (first | (with_reducible first | exact HB.out | apply below_alloc | apply pw_below_drewN | apply below_drew1) | exact HB.out)⟩
                           · rw [if_neg c49] at H
                             exact absurd H (by simp)
                         · rw [if_neg c48] at H
                           have c48b0 : decide (a1 < 1) = false := decide_eq_false c48
                           clear c48
                           by_cases c50 : a1 > 4096
                           · rw [if_pos c50] at H
                             have c50b0 : decide (4096 < a1) = true := decide_eq_true c50
                             clear c50
                             by_cases c51 : t299 = x12_39
                             · rw [if_pos c51] at H
                               have c51b0 : (t299 == x12_39) = true := beq_iff_eq.mpr c51
                               have c51b1 : (t299 != x12_39) = false := bne_eq_false_iff_eq.mpr c51
                               clear c51
                               obtain rfl := Option.some.inj H
                               go_wp2
                               go_ret
                               exact ⟨by first | rfl | (simp [errW_none, errW_some] <;> rfl) | (simp only [← hji20]; first | rfl | (simp [errW_none, errW_some] <;> rfl)) | (simp [*, errW_none, errW_some] <;> rfl) | (first | (simp (disch := omega) [w64_s, errW_none, errW_some]; done) | (simp (disch := omega) [w64_s, errW_none, errW_some] <;> rfl)), by repeat (first | (with_reducible first | exact HB.out | apply below_alloc | apply pw_below_drewN | apply below_drew1) | exact HB.out)⟩
                             · rw [if_neg c51] at H
                               exact absurd H (by simp)
                           · rw [if_neg c50] at H
                             have c50b0 : decide (4096 < a1) = false := decide_eq_false c50
                             clear c50
                             by_cases c52 : t299 = x12_39
                             · rw [if_pos c52] at H
                               have c52b0 : (t299 == x12_39) = true := beq_iff_eq.mpr c52
                               have c52b1 : (t299 != x12_39) = false := bne_eq_false_iff_eq.mpr c52
                               clear c52
                               obtain rfl := Option.some.inj H
                               go_wp2
                               go_ret
                               exact ⟨by first | rfl | (simp [errW_none, errW_some] <;> rfl) | (simp only [← hji20]; first | rfl | (simp [errW_none, errW_some] <;> rfl)) | (simp [*, errW_none, errW_some] <;> rfl) | (first | (simp (disch := omega) [w64_s, errW_none, errW_some]; done) | (simp (disch := omega) [w64_s, errW_none, errW_some] <;> rfl)), by repeat (first | (with_reducible first | exact HB.out | apply below_alloc | apply pw_below_drewN | apply below_drew1) | exact HB.out)⟩
                             · rw [if_neg c52] at H
                               exact absurd H (by simp)
                 · rw [if_neg c22] at H
                   exact absurd H (by simp)
               · rw [if_neg c21] at H
                 exact absurd H (by simp)
             · rw [if_neg c19] at H
               exact absurd H (by simp)
           · rw [if_neg c18] at H
             exact absurd H (by simp)
 · replace c5 := Bool.eq_false_iff.mpr c5
   subst c5
   have H1 : (none) = some r := by rw [if_neg (show ¬ (false = true) by decide)] at H; exact H
   clear H
   have H := H1
   clear H1
   exact absurd H (by simp)

/-- THE ONE PURE STATEMENT of incipitlaw12_GroupMany: yours. -/
def incipitlaw12_GroupMany.Pure : Prop := ∀ (a0 : Int) (a1 : Int) (a2 : Int), (Lit.int .i64 a0).wf = true → (Lit.int .i64 a1).wf = true → (Lit.int .i64 a2).wf = true → ∃ k, incipitlaw12_GroupMany.f k a0 a1 a2 = some true
theorem incipitlaw12_GroupMany.walk (P : incipitlaw12_GroupMany.Pure) (a0 : Int) (a1 : Int) (a2 : Int) (w : World) (w0 : (Lit.int .i64 a0).wf = true) (w1 : (Lit.int .i64 a1).wf = true) (w2 : (Lit.int .i64 a2).wf = true) :
 Calls Try.prog 3 #[.int .i64 a0, .int .i64 a1, .int .i64 a2] w fun e w' => e = .returned (.bool true) ∧ Below w.heap.size w w' := by
 obtain ⟨k, h⟩ := P a0 a1 a2 w0 w1 w2
 refine (incipitlaw12_GroupMany.calls k a0 a1 a2 true w h).mono ?_
 rintro e w' ⟨rfl, hd⟩
 exact ⟨rfl, hd⟩

end Go.Proofs.Ytdefoinlpepolaa.MGrp
