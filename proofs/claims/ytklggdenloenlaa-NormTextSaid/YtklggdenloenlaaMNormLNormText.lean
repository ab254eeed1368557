-- written by mp.py, a program of this session's over the kit's printer
import Derived.Test.YtklggdenloenlaaMNormx0
import Derived.Test.YtklggdenloenlaaMNormx7
import Derived.Test.YtklggdenloenlaaMNormx8
import Derived.Test.YtklggdenloenlaaMNormx10
import Derived.Test.YtklggdenloenlaaMNormx11
import Derived.Test.YtklggdenloenlaaMNormx13
namespace Go.Proofs.Ytklggdenloenlaa.MNorm
open Go.RowKit Go.Proofs.YtklggdenloenlaaW.PrintWords Go.Proofs.YtklggdenloenlaaW.PrintLast Go.Proofs.YtklggdenloenlaaW.PrintMore
attribute [local go_sem] max2_int min2_int max_two min_two max_three min_three max_four min_four   -- for this text's walks alone
set_option linter.unusedVariables false
set_option linter.unusedSimpArgs false

/-! ### incipitlaw4_NormText: function 4 -/
def incipitlaw4_NormText.j0 : Nat → ByteArray → Bool → Bool → Option (Bool)
 | 0, _, _, _ => none
 | k + 1, x6, x7, x69 => if x69 = true then (none) else ((norm_Text.f k x6).bind fun bt361 => (if x7 = true then (if bt361.2 = true then (if bt361.1.toList = x6.toList then ((norm_Is.f k x6).bind fun t363 => (some t363)) else (none)) else (none)) else (some true)))
def incipitlaw4_NormText.f (k : Nat) (a0 : ByteArray) (a1 : ByteArray) : Option (Bool) := (incipitlaw4_begun.f k).bind fun t349 => (if t349 = true then ((incipitlaw1_Cut.f a0 120).bind fun t350 => ((incipitlaw1_Cut.f a1 120).bind fun t351 => ((norm_Text.f k t350).bind fun bt352 => ((incipitref1_Text.f k t350).bind fun bt354 => ((incipitref1_Text.f k t351).bind fun bt356 => (if (bt352.2 != bt354.2) = true then (incipitlaw4_NormText.j0 k bt352.1 bt352.2 true) else (if bt352.1.toList = bt354.1.toList then ((norm_Is.f k t350).bind fun t358 => (if bt354.2 = true then (if (t358 != (bt354.1.toList == t350.toList)) = true then (incipitlaw4_NormText.j0 k bt352.1 bt352.2 true) else ((norm_Same.f k t350 t351).bind fun t359 => (if bt356.2 = true then (incipitlaw4_NormText.j0 k bt352.1 bt352.2 (t359 != (bt354.1.toList == bt356.1.toList))) else (incipitlaw4_NormText.j0 k bt352.1 bt352.2 (t359 != false))))) else (if (t358 != false) = true then (incipitlaw4_NormText.j0 k bt352.1 bt352.2 true) else ((norm_Same.f k t350 t351).bind fun t360 => (incipitlaw4_NormText.j0 k bt352.1 bt352.2 (t360 != false)))))) else (incipitlaw4_NormText.j0 k bt352.1 bt352.2 true)))))))) else (none))
theorem incipitlaw4_NormText.mono_l : ∀ k, (∀ y0 y1 y2, LeO (incipitlaw4_NormText.j0 k y0 y1 y2) (incipitlaw4_NormText.j0 (k + 1) y0 y1 y2))
 | 0 => fun _ _ _ r h => by simp [incipitlaw4_NormText.j0] at h
 | k + 1 => by
  have ih0 := incipitlaw4_NormText.mono_l k
  · intro y0 y1 y2
    unfold incipitlaw4_NormText.j0
    repeat' first
    | (with_reducible exact ih0 _ _ _)
    | (with_reducible exact incipitlaw4_begun.mono _)
    | (with_reducible exact incipitref1_Text.mono _ _)
    | (with_reducible exact norm_Is.mono _ _)
    | (with_reducible exact norm_Same.mono _ _ _)
    | (with_reducible exact norm_Text.mono _ _)
    | (with_reducible exact LeO.refl _)
    | (with_reducible exact LeO.none _)
    | (with_reducible refine LeO.ite ?_ ?_)
    | (with_reducible refine LeO.bind ?_ (fun _ => ?_))
    | exact ih0 _ _ _
    | exact incipitlaw4_begun.mono _
    | exact incipitref1_Text.mono _ _
    | exact norm_Is.mono _ _
    | exact norm_Same.mono _ _ _
    | exact norm_Text.mono _ _
    | exact LeO.none _
    | refine LeO.ite ?_ ?_
    | refine LeO.bind ?_ (fun _ => ?_)
theorem incipitlaw4_NormText.mono : ∀ a0 a1 k, LeO (incipitlaw4_NormText.f k a0 a1) (incipitlaw4_NormText.f (k + 1) a0 a1) := by
 intro a0 a1 k
 have ih0 := incipitlaw4_NormText.mono_l k
 unfold incipitlaw4_NormText.f
 repeat' first
  | (with_reducible exact ih0 _ _ _)
  | (with_reducible exact incipitlaw4_begun.mono _)
  | (with_reducible exact incipitref1_Text.mono _ _)
  | (with_reducible exact norm_Is.mono _ _)
  | (with_reducible exact norm_Same.mono _ _ _)
  | (with_reducible exact norm_Text.mono _ _)
  | (with_reducible exact LeO.refl _)
  | (with_reducible exact LeO.none _)
  | (with_reducible refine LeO.ite ?_ ?_)
  | (with_reducible refine LeO.bind ?_ (fun _ => ?_))
  | exact ih0 _ _ _
  | exact incipitlaw4_begun.mono _
  | exact incipitref1_Text.mono _ _
  | exact norm_Is.mono _ _
  | exact norm_Same.mono _ _ _
  | exact norm_Text.mono _ _
  | exact LeO.none _
  | refine LeO.ite ?_ ?_
  | refine LeO.bind ?_ (fun _ => ?_)
set_option maxHeartbeats 8000000 in
set_option maxRecDepth 100000 in
theorem incipitlaw4_NormText.calls (k : Nat) (a0 : ByteArray) (a1 : ByteArray) (r : Bool) (w : World) (h : incipitlaw4_NormText.f k a0 a1 = some r) :
 Calls Try.prog 4 #[.string a0, .string a1] w fun e w' => e = .returned (.bool r) ∧ Below w.heap.size w w' := by
 have HB := Aside0.mk (Below.refl w.heap.size w)
 have H : ((incipitlaw4_begun.f k).bind fun t349 => (if t349 = true then ((incipitlaw1_Cut.f a0 120).bind fun t350 => ((incipitlaw1_Cut.f a1 120).bind fun t351 => ((norm_Text.f k t350).bind fun bt352 => ((incipitref1_Text.f k t350).bind fun bt354 => ((incipitref1_Text.f k t351).bind fun bt356 => (if (bt352.2 != bt354.2) = true then (incipitlaw4_NormText.j0 k bt352.1 bt352.2 true) else (if bt352.1.toList = bt354.1.toList then ((norm_Is.f k t350).bind fun t358 => (if bt354.2 = true then (if (t358 != (bt354.1.toList == t350.toList)) = true then (incipitlaw4_NormText.j0 k bt352.1 bt352.2 true) else ((norm_Same.f k t350 t351).bind fun t359 => (if bt356.2 = true then (incipitlaw4_NormText.j0 k bt352.1 bt352.2 (t359 != (bt354.1.toList == bt356.1.toList))) else (incipitlaw4_NormText.j0 k bt352.1 bt352.2 (t359 != false))))) else (if (t358 != false) = true then (incipitlaw4_NormText.j0 k bt352.1 bt352.2 true) else ((norm_Same.f k t350 t351).bind fun t360 => (incipitlaw4_NormText.j0 k bt352.1 bt352.2 (t360 != false)))))) else (incipitlaw4_NormText.j0 k bt352.1 bt352.2 true)))))))) else (none))) = some r := h
 clear h
 replace H := Option.bind_eq_some_iff.mp H
 obtain ⟨t349, A30, H⟩ := H
 replace H : (if t349 = true then ((incipitlaw1_Cut.f a0 120).bind fun t350 => ((incipitlaw1_Cut.f a1 120).bind fun t351 => ((norm_Text.f k t350).bind fun bt352 => ((incipitref1_Text.f k t350).bind fun bt354 => ((incipitref1_Text.f k t351).bind fun bt356 => (if (bt352.2 != bt354.2) = true then (incipitlaw4_NormText.j0 k bt352.1 bt352.2 true) else (if bt352.1.toList = bt354.1.toList then ((norm_Is.f k t350).bind fun t358 => (if bt354.2 = true then (if (t358 != (bt354.1.toList == t350.toList)) = true then (incipitlaw4_NormText.j0 k bt352.1 bt352.2 true) else ((norm_Same.f k t350 t351).bind fun t359 => (if bt356.2 = true then (incipitlaw4_NormText.j0 k bt352.1 bt352.2 (t359 != (bt354.1.toList == bt356.1.toList))) else (incipitlaw4_NormText.j0 k bt352.1 bt352.2 (t359 != false))))) else (if (t358 != false) = true then (incipitlaw4_NormText.j0 k bt352.1 bt352.2 true) else ((norm_Same.f k t350 t351).bind fun t360 => (incipitlaw4_NormText.j0 k bt352.1 bt352.2 (t360 != false)))))) else (incipitlaw4_NormText.j0 k bt352.1 bt352.2 true)))))))) else (none)) = some r := H
 have A3 := Aside0.mk A30
 clear A30
 by_cases c4 : t349 = true
 · subst c4
   have H1 : ((incipitlaw1_Cut.f a0 120).bind fun t350 => ((incipitlaw1_Cut.f a1 120).bind fun t351 => ((norm_Text.f k t350).bind fun bt352 => ((incipitref1_Text.f k t350).bind fun bt354 => ((incipitref1_Text.f k t351).bind fun bt356 => (if (bt352.2 != bt354.2) = true then (incipitlaw4_NormText.j0 k bt352.1 bt352.2 true) else (if bt352.1.toList = bt354.1.toList then ((norm_Is.f k t350).bind fun t358 => (if bt354.2 = true then (if (t358 != (bt354.1.toList == t350.toList)) = true then (incipitlaw4_NormText.j0 k bt352.1 bt352.2 true) else ((norm_Same.f k t350 t351).bind fun t359 => (if bt356.2 = true then (incipitlaw4_NormText.j0 k bt352.1 bt352.2 (t359 != (bt354.1.toList == bt356.1.toList))) else (incipitlaw4_NormText.j0 k bt352.1 bt352.2 (t359 != false))))) else (if (t358 != false) = true then (incipitlaw4_NormText.j0 k bt352.1 bt352.2 true) else ((norm_Same.f k t350 t351).bind fun t360 => (incipitlaw4_NormText.j0 k bt352.1 bt352.2 (t360 != false)))))) else (incipitlaw4_NormText.j0 k bt352.1 bt352.2 true)))))))) = some r := by rw [if_pos rfl] at H; exact H
   clear H
   have H := H1
   clear H1
   replace H := Option.bind_eq_some_iff.mp H
   obtain ⟨t350, A50, H⟩ := H
   replace H : ((incipitlaw1_Cut.f a1 120).bind fun t351 => ((norm_Text.f k t350).bind fun bt352 => ((incipitref1_Text.f k t350).bind fun bt354 => ((incipitref1_Text.f k t351).bind fun bt356 => (if (bt352.2 != bt354.2) = true then (incipitlaw4_NormText.j0 k bt352.1 bt352.2 true) else (if bt352.1.toList = bt354.1.toList then ((norm_Is.f k t350).bind fun t358 => (if bt354.2 = true then (if (t358 != (bt354.1.toList == t350.toList)) = true then (incipitlaw4_NormText.j0 k bt352.1 bt352.2 true) else ((norm_Same.f k t350 t351).bind fun t359 => (if bt356.2 = true then (incipitlaw4_NormText.j0 k bt352.1 bt352.2 (t359 != (bt354.1.toList == bt356.1.toList))) else (incipitlaw4_NormText.j0 k bt352.1 bt352.2 (t359 != false))))) else (if (t358 != false) = true then (incipitlaw4_NormText.j0 k bt352.1 bt352.2 true) else ((norm_Same.f k t350 t351).bind fun t360 => (incipitlaw4_NormText.j0 k bt352.1 bt352.2 (t360 != false)))))) else (incipitlaw4_NormText.j0 k bt352.1 bt352.2 true))))))) = some r := H
   have A5 := Aside0.mk A50
   clear A50
   replace H := Option.bind_eq_some_iff.mp H
   obtain ⟨t351, A60, H⟩ := H
   replace H : ((norm_Text.f k t350).bind fun bt352 => ((incipitref1_Text.f k t350).bind fun bt354 => ((incipitref1_Text.f k t351).bind fun bt356 => (if (bt352.2 != bt354.2) = true then (incipitlaw4_NormText.j0 k bt352.1 bt352.2 true) else (if bt352.1.toList = bt354.1.toList then ((norm_Is.f k t350).bind fun t358 => (if bt354.2 = true then (if (t358 != (bt354.1.toList == t350.toList)) = true then (incipitlaw4_NormText.j0 k bt352.1 bt352.2 true) else ((norm_Same.f k t350 t351).bind fun t359 => (if bt356.2 = true then (incipitlaw4_NormText.j0 k bt352.1 bt352.2 (t359 != (bt354.1.toList == bt356.1.toList))) else (incipitlaw4_NormText.j0 k bt352.1 bt352.2 (t359 != false))))) else (if (t358 != false) = true then (incipitlaw4_NormText.j0 k bt352.1 bt352.2 true) else ((norm_Same.f k t350 t351).bind fun t360 => (incipitlaw4_NormText.j0 k bt352.1 bt352.2 (t360 != false)))))) else (incipitlaw4_NormText.j0 k bt352.1 bt352.2 true)))))) = some r := H
   have A6 := Aside0.mk A60
   clear A60
   replace H := Option.bind_eq_some_iff.mp H
   obtain ⟨⟨t352, t353⟩, A70, H⟩ := H
   replace H : ((incipitref1_Text.f k t350).bind fun bt354 => ((incipitref1_Text.f k t351).bind fun bt356 => (if (t353 != bt354.2) = true then (incipitlaw4_NormText.j0 k t352 t353 true) else (if t352.toList = bt354.1.toList then ((norm_Is.f k t350).bind fun t358 => (if bt354.2 = true then (if (t358 != (bt354.1.toList == t350.toList)) = true then (incipitlaw4_NormText.j0 k t352 t353 true) else ((norm_Same.f k t350 t351).bind fun t359 => (if bt356.2 = true then (incipitlaw4_NormText.j0 k t352 t353 (t359 != (bt354.1.toList == bt356.1.toList))) else (incipitlaw4_NormText.j0 k t352 t353 (t359 != false))))) else (if (t358 != false) = true then (incipitlaw4_NormText.j0 k t352 t353 true) else ((norm_Same.f k t350 t351).bind fun t360 => (incipitlaw4_NormText.j0 k t352 t353 (t360 != false)))))) else (incipitlaw4_NormText.j0 k t352 t353 true))))) = some r := H
   have A7 := Aside0.mk A70
   clear A70
   replace H := Option.bind_eq_some_iff.mp H
   obtain ⟨⟨t354, t355⟩, A80, H⟩ := H
   replace H : ((incipitref1_Text.f k t351).bind fun bt356 => (if (t353 != t355) = true then (incipitlaw4_NormText.j0 k t352 t353 true) else (if t352.toList = t354.toList then ((norm_Is.f k t350).bind fun t358 => (if t355 = true then (if (t358 != (t354.toList == t350.toList)) = true then (incipitlaw4_NormText.j0 k t352 t353 true) else ((norm_Same.f k t350 t351).bind fun t359 => (if bt356.2 = true then (incipitlaw4_NormText.j0 k t352 t353 (t359 != (t354.toList == bt356.1.toList))) else (incipitlaw4_NormText.j0 k t352 t353 (t359 != false))))) else (if (t358 != false) = true then (incipitlaw4_NormText.j0 k t352 t353 true) else ((norm_Same.f k t350 t351).bind fun t360 => (incipitlaw4_NormText.j0 k t352 t353 (t360 != false)))))) else (incipitlaw4_NormText.j0 k t352 t353 true)))) = some r := H
   have A8 := Aside0.mk A80
   clear A80
   replace H := Option.bind_eq_some_iff.mp H
   obtain ⟨⟨t356, t357⟩, A90, H⟩ := H
   replace H : (if (t353 != t355) = true then (incipitlaw4_NormText.j0 k t352 t353 true) else (if t352.toList = t354.toList then ((norm_Is.f k t350).bind fun t358 => (if t355 = true then (if (t358 != (t354.toList == t350.toList)) = true then (incipitlaw4_NormText.j0 k t352 t353 true) else ((norm_Same.f k t350 t351).bind fun t359 => (if t357 = true then (incipitlaw4_NormText.j0 k t352 t353 (t359 != (t354.toList == t356.toList))) else (incipitlaw4_NormText.j0 k t352 t353 (t359 != false))))) else (if (t358 != false) = true then (incipitlaw4_NormText.j0 k t352 t353 true) else ((norm_Same.f k t350 t351).bind fun t360 => (incipitlaw4_NormText.j0 k t352 t353 (t360 != false)))))) else (incipitlaw4_NormText.j0 k t352 t353 true))) = some r := H
   have A9 := Aside0.mk A90
   clear A90
   have HC10 := Aside0.mk H
   clear H
   go_enter Try.func4, Try.ntmps4
   go_upto_region 8 with (first | ((with_reducible refine gate_callee (f := 15) rfl ?_); refine goesL_ (some 14) rfl rfl Try.func15 (by kernel_rfl) rfl #[] rfl (by (try simp only [List.map_toArray, List.map_cons, List.map_nil]); first | done | rfl | (simp only [List.length_drop, List.length_take]; rfl)) ?_; (with_reducible refine (incipitlaw4_begun.calls k  true _ A3.out).mono ?_); rintro e w11 ⟨rfl, hb⟩; refine ⟨_, rfl, ?_⟩; have n0_ := Aside0.mk (below_step (by repeat (first | (with_reducible first | exact HB.out | apply below_alloc | apply pw_below_drewN | apply below_drew1) | exact HB.out)) hb); clear HB; have HB := n0_; clear n0_; (try clear hb); (try clear hb2); (try clear hk); (try clear hi)) | ((with_reducible refine gate_callee (f := 20) rfl ?_); refine goesL_ (some 18) rfl rfl Try.func20 (by kernel_rfl) rfl #[.string a0, .int .i64 120] rfl (by (try simp only [List.map_toArray, List.map_cons, List.map_nil]); first | done | rfl | (simp only [List.length_drop, List.length_take]; rfl)) ?_; (with_reducible refine (incipitlaw1_Cut.calls a0 120 t350 _ A5.out).mono ?_); rintro e w' ⟨rfl, ⟨nd, rfl⟩⟩; refine ⟨_, rfl, ?_⟩) | ((with_reducible refine gate_callee (f := 20) rfl ?_); refine goesL_ (some 20) rfl rfl Try.func20 (by kernel_rfl) rfl #[.string a1, .int .i64 120] rfl (by (try simp only [List.map_toArray, List.map_cons, List.map_nil]); first | done | rfl | (simp only [List.length_drop, List.length_take]; rfl)) ?_; (with_reducible refine (incipitlaw1_Cut.calls a1 120 t351 _ A6.out).mono ?_); rintro e w' ⟨rfl, ⟨nd, rfl⟩⟩; refine ⟨_, rfl, ?_⟩) | ((with_reducible refine gate_callee (f := 21) rfl ?_); refine goesL_ (some 23) rfl rfl Try.func21 (by kernel_rfl) rfl #[.string t350] rfl (by (try simp only [List.map_toArray, List.map_cons, List.map_nil]); first | done | rfl | (simp only [List.length_drop, List.length_take]; rfl)) ?_; (with_reducible refine (norm_Text.calls k t350 t352 t353 _ A7.out).mono ?_); rintro e w12 ⟨rfl, hb⟩; refine ⟨_, rfl, ?_⟩; have n0_ := Aside0.mk (below_step (by repeat (first | (with_reducible first | exact HB.out | apply below_alloc | apply pw_below_drewN | apply below_drew1) | exact HB.out)) hb); clear HB; have HB := n0_; clear n0_; (try clear hb); (try clear hb2); (try clear hk); (try clear hi)) | ((with_reducible refine gate_callee (f := 22) rfl ?_); refine goesL_ (some 28) rfl rfl Try.func22 (by kernel_rfl) rfl #[.string t350] rfl (by (try simp only [List.map_toArray, List.map_cons, List.map_nil]); first | done | rfl | (simp only [List.length_drop, List.length_take]; rfl)) ?_; (with_reducible refine (incipitref1_Text.calls k t350 t354 t355 _ A8.out).mono ?_); rintro e w13 ⟨rfl, hb⟩; refine ⟨_, rfl, ?_⟩; have n0_ := Aside0.mk (below_step (by repeat (first | (with_reducible first | exact HB.out | apply below_alloc | apply pw_below_drewN | apply below_drew1) | exact HB.out)) hb); clear HB; have HB := n0_; clear n0_; (try clear hb); (try clear hb2); (try clear hk); (try clear hi)) | ((with_reducible refine gate_callee (f := 22) rfl ?_); refine goesL_ (some 33) rfl rfl Try.func22 (by kernel_rfl) rfl #[.string t351] rfl (by (try simp only [List.map_toArray, List.map_cons, List.map_nil]); first | done | rfl | (simp only [List.length_drop, List.length_take]; rfl)) ?_; (with_reducible refine (incipitref1_Text.calls k t351 t356 t357 _ A9.out).mono ?_); rintro e w14 ⟨rfl, hb⟩; refine ⟨_, rfl, ?_⟩; have n0_ := Aside0.mk (below_step (by repeat (first | (with_reducible first | exact HB.out | apply below_alloc | apply pw_below_drewN | apply below_drew1) | exact HB.out)) hb); clear HB; have HB := n0_; clear n0_; (try clear hb); (try clear hb2); (try clear hk); (try clear hi)))
   (try simp only [Act.put, List.setIfInBounds_toArray, List.set_cons_zero, List.set_cons_succ])
   go_cut [69] (fun v69 wc => ∃ (kq : Nat) (x69_9 : Bool), v69 = .bool x69_9 ∧ Aside0 (incipitlaw4_NormText.j0 kq t352 t353 x69_9 = some r) ∧ Aside0 (kq ≤ k) ∧ Aside0 (Below w.heap.size w wc))
   case first =>
    have H := HC10.out
    clear HC10
    by_cases c15 : (t353 != t355) = true
    · rw [if_pos c15] at H
      have c15b0 : (t353 != t355) = true := c15
      (try (have c15b1 : decide (t353 = t355) = false := by simpa using c15))
      (try (have c15b2 : (t353 == t355) = false := by simpa using c15))
      (try (have c15b3 : ¬ (t353 = t355) := by simpa using c15))
      clear c15
      (first | rw [c15b0] | (simp only [i64_w, i32_w]; rw [c15b0]) | skip)
      have H' := Aside0.mk H
      clear H
      go_wp2
      go_meet
      case rel => exact ⟨_, (true), (by first | rfl | (simp; done) | (simp [*]; done)), H', ⟨by first | omega | exact Nat.le_refl _⟩, ⟨by repeat (first | (with_reducible first | exact HB.out | apply below_alloc | apply pw_below_drewN | apply below_drew1) | exact HB.out)⟩⟩
    · rw [if_neg c15] at H
      have c15b0 : (t353 != t355) = false := by simpa using c15
      (try (have c15b1 : decide (t353 = t355) = true := by simpa using c15))
      (try (have c15b2 : (t353 == t355) = true := by simpa using c15))
      clear c15
      (first | rw [c15b0] | (simp only [i64_w, i32_w]; rw [c15b0]) | skip)
      by_cases c16 : t352.toList = t354.toList
      · rw [if_pos c16] at H
        have c16b0 : (t352.toList == t354.toList) = true := beq_iff_eq.mpr c16
        have c16b1 : (t352.toList != t354.toList) = false := bne_eq_false_iff_eq.mpr c16
        clear c16
        replace H := Option.bind_eq_some_iff.mp H
        obtain ⟨t358, A170, H⟩ := H
        replace H : (if t355 = true then (if (t358 != (t354.toList == t350.toList)) = true then (incipitlaw4_NormText.j0 k t352 t353 true) else ((norm_Same.f k t350 t351).bind fun t359 => (if t357 = true then (incipitlaw4_NormText.j0 k t352 t353 (t359 != (t354.toList == t356.toList))) else (incipitlaw4_NormText.j0 k t352 t353 (t359 != false))))) else (if (t358 != false) = true then (incipitlaw4_NormText.j0 k t352 t353 true) else ((norm_Same.f k t350 t351).bind fun t360 => (incipitlaw4_NormText.j0 k t352 t353 (t360 != false))))) = some r := H
        have A17 := Aside0.mk A170
        clear A170
        by_cases c18 : t355 = true
        · subst c18
          have H1 : (if (t358 != (t354.toList == t350.toList)) = true then (incipitlaw4_NormText.j0 k t352 t353 true) else ((norm_Same.f k t350 t351).bind fun t359 => (if t357 = true then (incipitlaw4_NormText.j0 k t352 t353 (t359 != (t354.toList == t356.toList))) else (incipitlaw4_NormText.j0 k t352 t353 (t359 != false))))) = some r := by rw [if_pos rfl] at H; exact H
          clear H
          have H := H1
          clear H1
          by_cases c19 : (t358 != (t354.toList == t350.toList)) = true
          · rw [if_pos c19] at H
            have c19b0 : (t358 != (t354.toList == t350.toList)) = true := c19
            (try (have c19b1 : decide (t358 = (t354.toList == t350.toList)) = false := by simpa using c19))
            (try (have c19b2 : (t358 == (t354.toList == t350.toList)) = false := by simpa using c19))
            (try (have c19b3 : ¬ (t358 = (t354.toList == t350.toList)) := by simpa using c19))
            clear c19
            have H' := Aside0.mk H
            clear H
            go_wp2_with (first | (go_at_call 23; (with_reducible refine (norm_Is.calls k t350 t358 _ A17.out).mono ?_); rintro e w20 ⟨rfl, hb⟩; have n0_ := Aside0.mk (below_step (by repeat (first | (with_reducible first | exact HB.out | apply below_alloc | apply pw_below_drewN | apply below_drew1) | exact HB.out)) hb); clear HB; have HB := n0_; clear n0_; (try clear hb); (try clear hb2); (try clear hk); (try clear hi)))
            go_meet
            case rel => exact ⟨_, (true), (by first | rfl | (simp; done) | (simp [*]; done)), H', ⟨by first | omega | exact Nat.le_refl _⟩, ⟨by repeat (first | (with_reducible first | exact HB.out | apply below_alloc | apply pw_below_drewN | apply below_drew1) | exact HB.out)⟩⟩
          · rw [if_neg c19] at H
            have c19b0 : (t358 != (t354.toList == t350.toList)) = false := by simpa using c19
            (try (have c19b1 : decide (t358 = (t354.toList == t350.toList)) = true := by simpa using c19))
            (try (have c19b2 : (t358 == (t354.toList == t350.toList)) = true := by simpa using c19))
            clear c19
            replace H := Option.bind_eq_some_iff.mp H
            obtain ⟨t359, A210, H⟩ := H
            replace H : (if t357 = true then (incipitlaw4_NormText.j0 k t352 t353 (t359 != (t354.toList == t356.toList))) else (incipitlaw4_NormText.j0 k t352 t353 (t359 != false))) = some r := H
            have A21 := Aside0.mk A210
            clear A210
            by_cases c22 : t357 = true
            · subst c22
              have H1 : (incipitlaw4_NormText.j0 k t352 t353 (t359 != (t354.toList == t356.toList))) = some r := by rw [if_pos rfl] at H; exact H
              clear H
              have H := H1
              clear H1
              have H' := Aside0.mk H
              clear H
              go_wp2_with (first | (go_at_call 23; (with_reducible refine (norm_Is.calls k t350 t358 _ A17.out).mono ?_); rintro e w23 ⟨rfl, hb⟩; have n0_ := Aside0.mk (below_step (by repeat (first | (with_reducible first | exact HB.out | apply below_alloc | apply pw_below_drewN | apply below_drew1) | exact HB.out)) hb); clear HB; have HB := n0_; clear n0_; (try clear hb); (try clear hb2); (try clear hk); (try clear hi)) | (go_at_call 24; (with_reducible refine (norm_Same.calls k t350 t351 t359 _ A21.out).mono ?_); rintro e w24 ⟨rfl, hb⟩; have n0_ := Aside0.mk (below_step (by repeat (first | (with_reducible first | exact HB.out | apply below_alloc | apply pw_below_drewN | apply below_drew1) | exact HB.out)) hb); clear HB; have HB := n0_; clear n0_; (try clear hb); (try clear hb2); (try clear hk); (try clear hi)))
              go_meet
              case rel => exact ⟨_, ((t359 != (t354.toList == t356.toList))), (by first | rfl | (simp; done) | (simp [*]; done)), H', ⟨by first | omega | exact Nat.le_refl _⟩, ⟨by repeat (first | (with_reducible first | exact HB.out | apply below_alloc | apply pw_below_drewN | apply below_drew1) | exact HB.out)⟩⟩
            · replace c22 := Bool.eq_false_iff.mpr c22
              subst c22
              have H1 : (incipitlaw4_NormText.j0 k t352 t353 (t359 != false)) = some r := by rw [if_neg (show ¬ (false = true) by decide)] at H; exact H
              clear H
              have H := H1
              clear H1
              have H' := Aside0.mk H
              clear H
              go_wp2_with (first | (go_at_call 23; (with_reducible refine (norm_Is.calls k t350 t358 _ A17.out).mono ?_); rintro e w25 ⟨rfl, hb⟩; have n0_ := Aside0.mk (below_step (by repeat (first | (with_reducible first | exact HB.out | apply below_alloc | apply pw_below_drewN | apply below_drew1) | exact HB.out)) hb); clear HB; have HB := n0_; clear n0_; (try clear hb); (try clear hb2); (try clear hk); (try clear hi)) | (go_at_call 24; (with_reducible refine (norm_Same.calls k t350 t351 t359 _ A21.out).mono ?_); rintro e w26 ⟨rfl, hb⟩; have n0_ := Aside0.mk (below_step (by repeat (first | (with_reducible first | exact HB.out | apply below_alloc | apply pw_below_drewN | apply below_drew1) | exact HB.out)) hb); clear HB; have HB := n0_; clear n0_; (try clear hb); (try clear hb2); (try clear hk); (try clear hi)))
              go_meet
              case rel => exact ⟨_, ((t359 != false)), (by first | rfl | (simp; done) | (simp [*]; done)), H', ⟨by first | omega | exact Nat.le_refl _⟩, ⟨by repeat (first | (with_reducible first | exact HB.out | apply below_alloc | apply pw_below_drewN | apply below_drew1) | exact HB.out)⟩⟩
        · replace c18 := Bool.eq_false_iff.mpr c18
          subst c18
          have H1 : (if (t358 != false) = true then (incipitlaw4_NormText.j0 k t352 t353 true) else ((norm_Same.f k t350 t351).bind fun t360 => (incipitlaw4_NormText.j0 k t352 t353 (t360 != false)))) = some r := by rw [if_neg (show ¬ (false = true) by decide)] at H; exact H
          clear H
          have H := H1
          clear H1
          by_cases c27 : (t358 != false) = true
          · rw [if_pos c27] at H
            have c27b0 : (t358 != false) = true := c27
            (try (have c27b1 : decide (t358 = false) = false := by simpa using c27))
            (try (have c27b2 : (t358 == false) = false := by simpa using c27))
            (try (have c27b3 : ¬ (t358 = false) := by simpa using c27))
            clear c27
            have H' := Aside0.mk H
            clear H
            go_wp2_with (first | (go_at_call 23; (with_reducible refine (norm_Is.calls k t350 t358 _ A17.out).mono ?_); rintro e w28 ⟨rfl, hb⟩; have n0_ := Aside0.mk (below_step (by repeat (first | (with_reducible first | exact HB.out | apply below_alloc | apply pw_below_drewN | apply below_drew1) | exact HB.out)) hb); clear HB; have HB := n0_; clear n0_; (try clear hb); (try clear hb2); (try clear hk); (try clear hi)))
            go_meet
            case rel => exact ⟨_, (true), (by first | rfl | (simp; done) | (simp [*]; done)), H', ⟨by first | omega | exact Nat.le_refl _⟩, ⟨by repeat (first | (with_reducible first | exact HB.out | apply below_alloc | apply pw_below_drewN | apply below_drew1) | exact HB.out)⟩⟩
          · rw [if_neg c27] at H
            have c27b0 : (t358 != false) = false := by simpa using c27
            (try (have c27b1 : decide (t358 = false) = true := by simpa using c27))
            (try (have c27b2 : (t358 == false) = true := by simpa using c27))
            clear c27
            replace H := Option.bind_eq_some_iff.mp H
            obtain ⟨t360, A290, H⟩ := H
            replace H : (incipitlaw4_NormText.j0 k t352 t353 (t360 != false)) = some r := H
            have A29 := Aside0.mk A290
            clear A290
            have H' := Aside0.mk H
            clear H
            go_wp2_with (first | (go_at_call 23; (with_reducible refine (norm_Is.calls k t350 t358 _ A17.out).mono ?_); rintro e w30 ⟨rfl, hb⟩; have n0_ := Aside0.mk (below_step (by repeat (first | (with_reducible first | exact HB.out | apply below_alloc | apply pw_below_drewN | apply below_drew1) | exact HB.out)) hb); clear HB; have HB := n0_; clear n0_; (try clear hb); (try clear hb2); (try clear hk); (try clear hi)) | (go_at_call 24; (with_reducible refine (norm_Same.calls k t350 t351 t360 _ A29.out).mono ?_); rintro e w31 ⟨rfl, hb⟩; have n0_ := Aside0.mk (below_step (by repeat (first | (with_reducible first | exact HB.out | apply below_alloc | apply pw_below_drewN | apply below_drew1) | exact HB.out)) hb); clear HB; have HB := n0_; clear n0_; (try clear hb); (try clear hb2); (try clear hk); (try clear hi)))
            go_meet
            case rel => exact ⟨_, ((t360 != false)), (by first | rfl | (simp; done) | (simp [*]; done)), H', ⟨by first | omega | exact Nat.le_refl _⟩, ⟨by repeat (first | (with_reducible first | exact HB.out | apply below_alloc | apply pw_below_drewN | apply below_drew1) | exact HB.out)⟩⟩
      · rw [if_neg c16] at H
        have c16b0 : (t352.toList == t354.toList) = false := beq_eq_false_iff_ne.mpr c16
        have c16b1 : (t352.toList != t354.toList) = true := bne_iff_ne.mpr c16
        have H' := Aside0.mk H
        clear H
        go_wp2
        go_meet
        case rel => exact ⟨_, (true), (by first | rfl | (simp; done) | (simp [*]; done)), H', ⟨by first | omega | exact Nat.le_refl _⟩, ⟨by repeat (first | (with_reducible first | exact HB.out | apply below_alloc | apply pw_below_drewN | apply below_drew1) | exact HB.out)⟩⟩
   case rest =>
    clear HC10
    (try clear c1); (try clear c2); (try clear p2); (try clear c4); (try clear c15); (try clear c15b0); (try clear c15b1); (try clear c15b2); (try clear c16); (try clear c16b0); (try clear c16b1); (try clear c18); (try clear c19); (try clear c19b0); (try clear c19b1); (try clear c19b2); (try clear c20); (try clear c21); (try clear c22); (try clear c27); (try clear c27b0); (try clear c27b1); (try clear c27b2)
    obtain ⟨kq, x69_9, rfl, HA, HJ9, HB⟩ := hcut
    cases kq with
    | zero => exact absurd HA.out (by simp [incipitlaw4_NormText.j0])
    | succ kj9 =>
     have H := HA.out
     clear HA
     simp only [incipitlaw4_NormText.j0] at H
     by_cases c32 : x69_9 = true
     · subst c32
       have H1 : (none) = some r := by rw [if_pos rfl] at H; exact H
       clear H
       have H := H1
       clear H1
       exact absurd H (by simp)
     · replace c32 := Bool.eq_false_iff.mpr c32
       subst c32
       have H1 : ((norm_Text.f kj9 t352).bind fun bt361 => (if t353 = true then (if bt361.2 = true then (if bt361.1.toList = t352.toList then ((norm_Is.f kj9 t352).bind fun t363 => (some t363)) else (none)) else (none)) else (some true))) = some r := by rw [if_neg (show ¬ (false = true) by decide)] at H; exact H
       clear H
       have H := H1
       clear H1
       replace H := Option.bind_eq_some_iff.mp H
       obtain ⟨⟨t361, t362⟩, A330, H⟩ := H
       replace H : (if t353 = true then (if t362 = true then (if t361.toList = t352.toList then ((norm_Is.f kj9 t352).bind fun t363 => (some t363)) else (none)) else (none)) else (some true)) = some r := H
       have A33 := Aside0.mk A330
       clear A330
       by_cases c34 : t353 = true
       · subst c34
         have H1 : (if t362 = true then (if t361.toList = t352.toList then ((norm_Is.f kj9 t352).bind fun t363 => (some t363)) else (none)) else (none)) = some r := by rw [if_pos rfl] at H; exact H
         clear H
         have H := H1
         clear H1
         by_cases c35 : t362 = true
         · subst c35
           have H1 : (if t361.toList = t352.toList then ((norm_Is.f kj9 t352).bind fun t363 => (some t363)) else (none)) = some r := by rw [if_pos rfl] at H; exact H
           clear H
           have H := H1
           clear H1
           by_cases c36 : t361.toList = t352.toList
           · rw [if_pos c36] at H
             have c36b0 : (t361.toList == t352.toList) = true := beq_iff_eq.mpr c36
             have c36b1 : (t361.toList != t352.toList) = false := bne_eq_false_iff_eq.mpr c36
             clear c36
             replace H := Option.bind_eq_some_iff.mp H
             obtain ⟨t363, A370, H⟩ := H
             replace H : (some t363) = some r := H
             have A37 := Aside0.mk A370
             clear A370
             obtain rfl := Option.some.inj H
             go_wp2_with (first | ((with_reducible refine gate_callee (f := 21) rfl ?_); refine goesL_ (some 72) rfl rfl Try.func21 (by kernel_rfl) rfl #[.string t352] rfl (by (try simp only [List.map_toArray, List.map_cons, List.map_nil]); first | done | rfl | (simp only [List.length_drop, List.length_take]; rfl)) ?_; (with_reducible refine (norm_Text.calls kj9 t352 t361 true _ A33.out).mono ?_); rintro e w38 ⟨rfl, hb⟩; refine ⟨_, rfl, ?_⟩; have n0_ := Aside0.mk (below_step (by repeat (first | (with_reducible first | exact HB.out | apply below_alloc | apply pw_below_drewN | apply below_drew1) | exact HB.out)) hb); clear HB; have HB := n0_; clear n0_; (try clear hb); (try clear hb2); (try clear hk); (try clear hi)) | (go_at_call 23; (with_reducible refine (norm_Is.calls kj9 t352 t363 _ A37.out).mono ?_); rintro e w39 ⟨rfl, hb⟩; have n0_ := Aside0.mk (below_step (by repeat (first | (with_reducible first | exact HB.out | apply below_alloc | apply pw_below_drewN | apply below_drew1) | exact HB.out)) hb); clear HB; have HB := n0_; clear n0_; (try clear hb); (try clear hb2); (try clear hk); (try clear hi)))
             go_ret
             exact ⟨by first | rfl | (simp [errW_none, errW_some] <;> rfl) | (simp [*, errW_none, errW_some] <;> rfl) | (first | (simp (disch := omega) [w64_s, errW_none, errW_some]; done) | (simp (disch := omega) [w64_s, errW_none, errW_some] <;> rfl)), by repeat (first | (with_reducible first | exact HB.out | apply below_alloc | apply pw_below_drewN | apply below_drew1) | exact HB.out)⟩
           · rw [if_neg c36] at H
             exact absurd H (by simp)
         · replace c35 := Bool.eq_false_iff.mpr c35
           subst c35
           have H1 : (none) = some r := by rw [if_neg (show ¬ (false = true) by decide)] at H; exact H
           clear H
           have H := H1
           clear H1
           exact absurd H (by simp)
       · replace c34 := Bool.eq_false_iff.mpr c34
         subst c34
         have H1 : (some true) = some r := by rw [if_neg (show ¬ (false = true) by decide)] at H; exact H
         clear H
         have H := H1
         clear H1
         obtain rfl := Option.some.inj H
         go_wp2_with (first | ((with_reducible refine gate_callee (f := 21) rfl ?_); refine goesL_ (some 72) rfl rfl Try.func21 (by kernel_rfl) rfl #[.string t352] rfl (by (try simp only [List.map_toArray, List.map_cons, List.map_nil]); first | done | rfl | (simp only [List.length_drop, List.length_take]; rfl)) ?_; (with_reducible refine (norm_Text.calls kj9 t352 t361 t362 _ A33.out).mono ?_); rintro e w40 ⟨rfl, hb⟩; refine ⟨_, rfl, ?_⟩; have n0_ := Aside0.mk (below_step (by repeat (first | (with_reducible first | exact HB.out | apply below_alloc | apply pw_below_drewN | apply below_drew1) | exact HB.out)) hb); clear HB; have HB := n0_; clear n0_; (try clear hb); (try clear hb2); (try clear hk); (try clear hi)))
         go_ret
         exact ⟨by first | rfl | (simp [errW_none, errW_some] <;> rfl) | (simp [*, errW_none, errW_some] <;> rfl) | (first | (simp (disch := omega) [w64_s, errW_none, errW_some]; done) | (simp (disch := omega) [w64_s, errW_none, errW_some] <;> rfl)), by repeat (first | (with_reducible first | exact HB.out | apply below_alloc | apply pw_below_drewN | apply below_drew1) | exact HB.out)⟩
 · replace c4 := Bool.eq_false_iff.mpr c4
   subst c4
   have H1 : (none) = some r := by rw [if_neg (show ¬ (false = true) by decide)] at H; exact H
   clear H
   have H := H1
   clear H1
   exact absurd H (by simp)

/-- THE ONE PURE STATEMENT of incipitlaw4_NormText: yours. -/
def incipitlaw4_NormText.Pure : Prop := ∀ (a0 : ByteArray) (a1 : ByteArray), a0.size ≤ 140737488351232 → a1.size ≤ 140737488351232 → ∃ k, incipitlaw4_NormText.f k a0 a1 = some true
theorem incipitlaw4_NormText.walk (P : incipitlaw4_NormText.Pure) (a0 : ByteArray) (a1 : ByteArray) (w : World) (w0 : a0.size ≤ 140737488351232) (w1 : a1.size ≤ 140737488351232) :
 Calls Try.prog 4 #[.string a0, .string a1] w fun e w' => e = .returned (.bool true) ∧ Below w.heap.size w w' := by
 obtain ⟨k, h⟩ := P a0 a1 w0 w1
 refine (incipitlaw4_NormText.calls k a0 a1 true w h).mono ?_
 rintro e w' ⟨rfl, hd⟩
 exact ⟨rfl, hd⟩

end Go.Proofs.Ytklggdenloenlaa.MNorm
