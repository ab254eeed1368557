-- written by mp.py, a program of this session's over the kit's printer
import Derived.Test.YtklggdenloenlaaMNormx0
import Derived.Test.YtklggdenloenlaaMNormx8
import Derived.Test.YtklggdenloenlaaMNormx11
import Derived.Test.YtklggdenloenlaaMNormx13
import Derived.Test.YtklggdenloenlaaMNormx16
namespace Go.Proofs.Ytklggdenloenlaa.MNorm
open Go.RowKit Go.Proofs.YtklggdenloenlaaW.PrintWords Go.Proofs.YtklggdenloenlaaW.PrintLast Go.Proofs.YtklggdenloenlaaW.PrintMore
attribute [local go_sem] max2_int min2_int max_two min_two max_three min_three max_four min_four   -- for this text's walks alone
set_option linter.unusedVariables false
set_option linter.unusedSimpArgs false

/-! ### incipitlaw4_NormSame: function 9 -/
def incipitlaw4_NormSame.f (k : Nat) (a0 : ByteArray) (a1 : ByteArray) (a2 : ByteArray) : Option (Bool) := (incipitlaw4_begun.f k).bind fun t424 => (if t424 = true then ((incipitlaw1_Cut.f a0 60).bind fun t425 => ((incipitlaw1_Cut.f a1 60).bind fun t426 => ((incipitlaw1_Cut.f a2 60).bind fun t427 => ((norm_Same.f k t425 t426).bind fun t428 => ((norm_Same.f k t426 t427).bind fun t429 => ((norm_Same.f k t425 t427).bind fun t430 => ((incipitref1_Text.f k t425).bind fun bt431 => (if t428 = true then (if t429 = true then (if t430 = true then ((norm_Same.f k t426 t425).bind fun t433 => (if (t433 == t428) = true then ((norm_Same.f k t425 t425).bind fun t434 => (some (t434 == bt431.2))) else (none))) else (none)) else ((norm_Same.f k t426 t425).bind fun t435 => (if (t435 == t428) = true then ((norm_Same.f k t425 t425).bind fun t436 => (some (t436 == bt431.2))) else (none)))) else ((norm_Same.f k t426 t425).bind fun t437 => (if (t437 == t428) = true then ((norm_Same.f k t425 t425).bind fun t438 => (some (t438 == bt431.2))) else (none))))))))))) else (none))
theorem incipitlaw4_NormSame.mono : ∀ a0 a1 a2 k, LeO (incipitlaw4_NormSame.f k a0 a1 a2) (incipitlaw4_NormSame.f (k + 1) a0 a1 a2) := by
 intro a0 a1 a2 k
 unfold incipitlaw4_NormSame.f
 repeat' first
  | (with_reducible exact incipitlaw4_begun.mono _)
  | (with_reducible exact incipitref1_Text.mono _ _)
  | (with_reducible exact norm_Same.mono _ _ _)
  | (with_reducible exact LeO.refl _)
  | (with_reducible exact LeO.none _)
  | (with_reducible refine LeO.ite ?_ ?_)
  | (with_reducible refine LeO.bind ?_ (fun _ => ?_))
  | exact incipitlaw4_begun.mono _
  | exact incipitref1_Text.mono _ _
  | exact norm_Same.mono _ _ _
  | exact LeO.none _
  | refine LeO.ite ?_ ?_
  | refine LeO.bind ?_ (fun _ => ?_)
set_option maxHeartbeats 8000000 in
set_option maxRecDepth 100000 in
theorem incipitlaw4_NormSame.calls (k : Nat) (a0 : ByteArray) (a1 : ByteArray) (a2 : ByteArray) (r : Bool) (w : World) (h : incipitlaw4_NormSame.f k a0 a1 a2 = some r) :
 Calls Try.prog 9 #[.string a0, .string a1, .string a2] w fun e w' => e = .returned (.bool r) ∧ Below w.heap.size w w' := by
 have HB := Aside0.mk (Below.refl w.heap.size w)
 have H : ((incipitlaw4_begun.f k).bind fun t424 => (if t424 = true then ((incipitlaw1_Cut.f a0 60).bind fun t425 => ((incipitlaw1_Cut.f a1 60).bind fun t426 => ((incipitlaw1_Cut.f a2 60).bind fun t427 => ((norm_Same.f k t425 t426).bind fun t428 => ((norm_Same.f k t426 t427).bind fun t429 => ((norm_Same.f k t425 t427).bind fun t430 => ((incipitref1_Text.f k t425).bind fun bt431 => (if t428 = true then (if t429 = true then (if t430 = true then ((norm_Same.f k t426 t425).bind fun t433 => (if (t433 == t428) = true then ((norm_Same.f k t425 t425).bind fun t434 => (some (t434 == bt431.2))) else (none))) else (none)) else ((norm_Same.f k t426 t425).bind fun t435 => (if (t435 == t428) = true then ((norm_Same.f k t425 t425).bind fun t436 => (some (t436 == bt431.2))) else (none)))) else ((norm_Same.f k t426 t425).bind fun t437 => (if (t437 == t428) = true then ((norm_Same.f k t425 t425).bind fun t438 => (some (t438 == bt431.2))) else (none))))))))))) else (none))) = some r := h
 clear h
 replace H := Option.bind_eq_some_iff.mp H
 obtain ⟨t424, A40, H⟩ := H
 replace H : (if t424 = true then ((incipitlaw1_Cut.f a0 60).bind fun t425 => ((incipitlaw1_Cut.f a1 60).bind fun t426 => ((incipitlaw1_Cut.f a2 60).bind fun t427 => ((norm_Same.f k t425 t426).bind fun t428 => ((norm_Same.f k t426 t427).bind fun t429 => ((norm_Same.f k t425 t427).bind fun t430 => ((incipitref1_Text.f k t425).bind fun bt431 => (if t428 = true then (if t429 = true then (if t430 = true then ((norm_Same.f k t426 t425).bind fun t433 => (if (t433 == t428) = true then ((norm_Same.f k t425 t425).bind fun t434 => (some (t434 == bt431.2))) else (none))) else (none)) else ((norm_Same.f k t426 t425).bind fun t435 => (if (t435 == t428) = true then ((norm_Same.f k t425 t425).bind fun t436 => (some (t436 == bt431.2))) else (none)))) else ((norm_Same.f k t426 t425).bind fun t437 => (if (t437 == t428) = true then ((norm_Same.f k t425 t425).bind fun t438 => (some (t438 == bt431.2))) else (none))))))))))) else (none)) = some r := H
 have A4 := Aside0.mk A40
 clear A40
 by_cases c5 : t424 = true
 · subst c5
   have H1 : ((incipitlaw1_Cut.f a0 60).bind fun t425 => ((incipitlaw1_Cut.f a1 60).bind fun t426 => ((incipitlaw1_Cut.f a2 60).bind fun t427 => ((norm_Same.f k t425 t426).bind fun t428 => ((norm_Same.f k t426 t427).bind fun t429 => ((norm_Same.f k t425 t427).bind fun t430 => ((incipitref1_Text.f k t425).bind fun bt431 => (if t428 = true then (if t429 = true then (if t430 = true then ((norm_Same.f k t426 t425).bind fun t433 => (if (t433 == t428) = true then ((norm_Same.f k t425 t425).bind fun t434 => (some (t434 == bt431.2))) else (none))) else (none)) else ((norm_Same.f k t426 t425).bind fun t435 => (if (t435 == t428) = true then ((norm_Same.f k t425 t425).bind fun t436 => (some (t436 == bt431.2))) else (none)))) else ((norm_Same.f k t426 t425).bind fun t437 => (if (t437 == t428) = true then ((norm_Same.f k t425 t425).bind fun t438 => (some (t438 == bt431.2))) else (none))))))))))) = some r := by rw [if_pos rfl] at H; exact H
   clear H
   have H := H1
   clear H1
   replace H := Option.bind_eq_some_iff.mp H
   obtain ⟨t425, A60, H⟩ := H
   replace H : ((incipitlaw1_Cut.f a1 60).bind fun t426 => ((incipitlaw1_Cut.f a2 60).bind fun t427 => ((norm_Same.f k t425 t426).bind fun t428 => ((norm_Same.f k t426 t427).bind fun t429 => ((norm_Same.f k t425 t427).bind fun t430 => ((incipitref1_Text.f k t425).bind fun bt431 => (if t428 = true then (if t429 = true then (if t430 = true then ((norm_Same.f k t426 t425).bind fun t433 => (if (t433 == t428) = true then ((norm_Same.f k t425 t425).bind fun t434 => (some (t434 == bt431.2))) else (none))) else (none)) else ((norm_Same.f k t426 t425).bind fun t435 => (if (t435 == t428) = true then ((norm_Same.f k t425 t425).bind fun t436 => (some (t436 == bt431.2))) else (none)))) else ((norm_Same.f k t426 t425).bind fun t437 => (if (t437 == t428) = true then ((norm_Same.f k t425 t425).bind fun t438 => (some (t438 == bt431.2))) else (none)))))))))) = some r := H
   have A6 := Aside0.mk A60
   clear A60
   replace H := Option.bind_eq_some_iff.mp H
   obtain ⟨t426, A70, H⟩ := H
   replace H : ((incipitlaw1_Cut.f a2 60).bind fun t427 => ((norm_Same.f k t425 t426).bind fun t428 => ((norm_Same.f k t426 t427).bind fun t429 => ((norm_Same.f k t425 t427).bind fun t430 => ((incipitref1_Text.f k t425).bind fun bt431 => (if t428 = true then (if t429 = true then (if t430 = true then ((norm_Same.f k t426 t425).bind fun t433 => (if (t433 == t428) = true then ((norm_Same.f k t425 t425).bind fun t434 => (some (t434 == bt431.2))) else (none))) else (none)) else ((norm_Same.f k t426 t425).bind fun t435 => (if (t435 == t428) = true then ((norm_Same.f k t425 t425).bind fun t436 => (some (t436 == bt431.2))) else (none)))) else ((norm_Same.f k t426 t425).bind fun t437 => (if (t437 == t428) = true then ((norm_Same.f k t425 t425).bind fun t438 => (some (t438 == bt431.2))) else (none))))))))) = some r := H
   have A7 := Aside0.mk A70
   clear A70
   replace H := Option.bind_eq_some_iff.mp H
   obtain ⟨t427, A80, H⟩ := H
   replace H : ((norm_Same.f k t425 t426).bind fun t428 => ((norm_Same.f k t426 t427).bind fun t429 => ((norm_Same.f k t425 t427).bind fun t430 => ((incipitref1_Text.f k t425).bind fun bt431 => (if t428 = true then (if t429 = true then (if t430 = true then ((norm_Same.f k t426 t425).bind fun t433 => (if (t433 == t428) = true then ((norm_Same.f k t425 t425).bind fun t434 => (some (t434 == bt431.2))) else (none))) else (none)) else ((norm_Same.f k t426 t425).bind fun t435 => (if (t435 == t428) = true then ((norm_Same.f k t425 t425).bind fun t436 => (some (t436 == bt431.2))) else (none)))) else ((norm_Same.f k t426 t425).bind fun t437 => (if (t437 == t428) = true then ((norm_Same.f k t425 t425).bind fun t438 => (some (t438 == bt431.2))) else (none)))))))) = some r := H
   have A8 := Aside0.mk A80
   clear A80
   replace H := Option.bind_eq_some_iff.mp H
   obtain ⟨t428, A90, H⟩ := H
   replace H : ((norm_Same.f k t426 t427).bind fun t429 => ((norm_Same.f k t425 t427).bind fun t430 => ((incipitref1_Text.f k t425).bind fun bt431 => (if t428 = true then (if t429 = true then (if t430 = true then ((norm_Same.f k t426 t425).bind fun t433 => (if (t433 == t428) = true then ((norm_Same.f k t425 t425).bind fun t434 => (some (t434 == bt431.2))) else (none))) else (none)) else ((norm_Same.f k t426 t425).bind fun t435 => (if (t435 == t428) = true then ((norm_Same.f k t425 t425).bind fun t436 => (some (t436 == bt431.2))) else (none)))) else ((norm_Same.f k t426 t425).bind fun t437 => (if (t437 == t428) = true then ((norm_Same.f k t425 t425).bind fun t438 => (some (t438 == bt431.2))) else (none))))))) = some r := H
   have A9 := Aside0.mk A90
   clear A90
   replace H := Option.bind_eq_some_iff.mp H
   obtain ⟨t429, A100, H⟩ := H
   replace H : ((norm_Same.f k t425 t427).bind fun t430 => ((incipitref1_Text.f k t425).bind fun bt431 => (if t428 = true then (if t429 = true then (if t430 = true then ((norm_Same.f k t426 t425).bind fun t433 => (if (t433 == t428) = true then ((norm_Same.f k t425 t425).bind fun t434 => (some (t434 == bt431.2))) else (none))) else (none)) else ((norm_Same.f k t426 t425).bind fun t435 => (if (t435 == t428) = true then ((norm_Same.f k t425 t425).bind fun t436 => (some (t436 == bt431.2))) else (none)))) else ((norm_Same.f k t426 t425).bind fun t437 => (if (t437 == t428) = true then ((norm_Same.f k t425 t425).bind fun t438 => (some (t438 == bt431.2))) else (none)))))) = some r := H
   have A10 := Aside0.mk A100
   clear A100
   replace H := Option.bind_eq_some_iff.mp H
   obtain ⟨t430, A110, H⟩ := H
   replace H : ((incipitref1_Text.f k t425).bind fun bt431 => (if t428 = true then (if t429 = true then (if t430 = true then ((norm_Same.f k t426 t425).bind fun t433 => (if (t433 == t428) = true then ((norm_Same.f k t425 t425).bind fun t434 => (some (t434 == bt431.2))) else (none))) else (none)) else ((norm_Same.f k t426 t425).bind fun t435 => (if (t435 == t428) = true then ((norm_Same.f k t425 t425).bind fun t436 => (some (t436 == bt431.2))) else (none)))) else ((norm_Same.f k t426 t425).bind fun t437 => (if (t437 == t428) = true then ((norm_Same.f k t425 t425).bind fun t438 => (some (t438 == bt431.2))) else (none))))) = some r := H
   have A11 := Aside0.mk A110
   clear A110
   replace H := Option.bind_eq_some_iff.mp H
   obtain ⟨⟨t431, t432⟩, A120, H⟩ := H
   replace H : (if t428 = true then (if t429 = true then (if t430 = true then ((norm_Same.f k t426 t425).bind fun t433 => (if (t433 == t428) = true then ((norm_Same.f k t425 t425).bind fun t434 => (some (t434 == t432))) else (none))) else (none)) else ((norm_Same.f k t426 t425).bind fun t435 => (if (t435 == t428) = true then ((norm_Same.f k t425 t425).bind fun t436 => (some (t436 == t432))) else (none)))) else ((norm_Same.f k t426 t425).bind fun t437 => (if (t437 == t428) = true then ((norm_Same.f k t425 t425).bind fun t438 => (some (t438 == t432))) else (none)))) = some r := H
   have A12 := Aside0.mk A120
   clear A120
   by_cases c13 : t428 = true
   · subst c13
     have H1 : (if t429 = true then (if t430 = true then ((norm_Same.f k t426 t425).bind fun t433 => (if (t433 == true) = true then ((norm_Same.f k t425 t425).bind fun t434 => (some (t434 == t432))) else (none))) else (none)) else ((norm_Same.f k t426 t425).bind fun t435 => (if (t435 == true) = true then ((norm_Same.f k t425 t425).bind fun t436 => (some (t436 == t432))) else (none)))) = some r := by rw [if_pos rfl] at H; exact H
     clear H
     have H := H1
     clear H1
     by_cases c14 : t429 = true
     · subst c14
       have H1 : (if t430 = true then ((norm_Same.f k t426 t425).bind fun t433 => (if (t433 == true) = true then ((norm_Same.f k t425 t425).bind fun t434 => (some (t434 == t432))) else (none))) else (none)) = some r := by rw [if_pos rfl] at H; exact H
       clear H
       have H := H1
       clear H1
       by_cases c15 : t430 = true
       · subst c15
         have H1 : ((norm_Same.f k t426 t425).bind fun t433 => (if (t433 == true) = true then ((norm_Same.f k t425 t425).bind fun t434 => (some (t434 == t432))) else (none))) = some r := by rw [if_pos rfl] at H; exact H
         clear H
         have H := H1
         clear H1
         replace H := Option.bind_eq_some_iff.mp H
         obtain ⟨t433, A160, H⟩ := H
         replace H : (if (t433 == true) = true then ((norm_Same.f k t425 t425).bind fun t434 => (some (t434 == t432))) else (none)) = some r := H
         have A16 := Aside0.mk A160
         clear A160
         by_cases c17 : (t433 == true) = true
         · rw [if_pos c17] at H
           have c17b0 : (t433 == true) = true := c17
           (try (have c17b1 : decide (t433 = true) = true := by simpa using c17))
           (try (have c17b2 : (t433 == true) = true := by simpa using c17))
           clear c17
           replace H := Option.bind_eq_some_iff.mp H
           obtain ⟨t434, A180, H⟩ := H
           replace H : (some (t434 == t432)) = some r := H
           have A18 := Aside0.mk A180
           clear A180
           obtain rfl := Option.some.inj H
           go_enter Try.func9, Try.ntmps9
           go_wp2_with (first | ((with_reducible refine gate_callee (f := 15) rfl ?_); refine goesL_ (some 13) rfl rfl Try.func15 (by kernel_rfl) rfl #[] rfl (by (try simp only [List.map_toArray, List.map_cons, List.map_nil]); first | done | rfl | (simp only [List.length_drop, List.length_take]; rfl)) ?_; (with_reducible refine (incipitlaw4_begun.calls k  true _ A4.out).mono ?_); rintro e w19 ⟨rfl, hb⟩; refine ⟨_, rfl, ?_⟩; have n0_ := Aside0.mk (below_step (by repeat (first | (with_reducible first | exact HB.out | apply below_alloc | apply pw_below_drewN | apply below_drew1) | exact HB.out)) hb); clear HB; have HB := n0_; clear n0_; (try clear hb); (try clear hb2); (try clear hk); (try clear hi)) | ((with_reducible refine gate_callee (f := 20) rfl ?_); refine goesL_ (some 17) rfl rfl Try.func20 (by kernel_rfl) rfl #[.string a0, .int .i64 60] rfl (by (try simp only [List.map_toArray, List.map_cons, List.map_nil]); first | done | rfl | (simp only [List.length_drop, List.length_take]; rfl)) ?_; (with_reducible refine (incipitlaw1_Cut.calls a0 60 t425 _ A6.out).mono ?_); rintro e w' ⟨rfl, ⟨nd, rfl⟩⟩; refine ⟨_, rfl, ?_⟩) | ((with_reducible refine gate_callee (f := 20) rfl ?_); refine goesL_ (some 19) rfl rfl Try.func20 (by kernel_rfl) rfl #[.string a1, .int .i64 60] rfl (by (try simp only [List.map_toArray, List.map_cons, List.map_nil]); first | done | rfl | (simp only [List.length_drop, List.length_take]; rfl)) ?_; (with_reducible refine (incipitlaw1_Cut.calls a1 60 t426 _ A7.out).mono ?_); rintro e w' ⟨rfl, ⟨nd, rfl⟩⟩; refine ⟨_, rfl, ?_⟩) | ((with_reducible refine gate_callee (f := 20) rfl ?_); refine goesL_ (some 21) rfl rfl Try.func20 (by kernel_rfl) rfl #[.string a2, .int .i64 60] rfl (by (try simp only [List.map_toArray, List.map_cons, List.map_nil]); first | done | rfl | (simp only [List.length_drop, List.length_take]; rfl)) ?_; (with_reducible refine (incipitlaw1_Cut.calls a2 60 t427 _ A8.out).mono ?_); rintro e w' ⟨rfl, ⟨nd, rfl⟩⟩; refine ⟨_, rfl, ?_⟩) | ((with_reducible refine gate_callee (f := 24) rfl ?_); refine goesL_ (some 24) rfl rfl Try.func24 (by kernel_rfl) rfl #[.string t425, .string t426] rfl (by (try simp only [List.map_toArray, List.map_cons, List.map_nil]); first | done | rfl | (simp only [List.length_drop, List.length_take]; rfl)) ?_; (with_reducible refine (norm_Same.calls k t425 t426 true _ A9.out).mono ?_); rintro e w20 ⟨rfl, hb⟩; refine ⟨_, rfl, ?_⟩; have n0_ := Aside0.mk (below_step (by repeat (first | (with_reducible first | exact HB.out | apply below_alloc | apply pw_below_drewN | apply below_drew1) | exact HB.out)) hb); clear HB; have HB := n0_; clear n0_; (try clear hb); (try clear hb2); (try clear hk); (try clear hi)) | ((with_reducible refine gate_callee (f := 24) rfl ?_); refine goesL_ (some 27) rfl rfl Try.func24 (by kernel_rfl) rfl #[.string t426, .string t427] rfl (by (try simp only [List.map_toArray, List.map_cons, List.map_nil]); first | done | rfl | (simp only [List.length_drop, List.length_take]; rfl)) ?_; (with_reducible refine (norm_Same.calls k t426 t427 true _ A10.out).mono ?_); rintro e w21 ⟨rfl, hb⟩; refine ⟨_, rfl, ?_⟩; have n0_ := Aside0.mk (below_step (by repeat (first | (with_reducible first | exact HB.out | apply below_alloc | apply pw_below_drewN | apply below_drew1) | exact HB.out)) hb); clear HB; have HB := n0_; clear n0_; (try clear hb); (try clear hb2); (try clear hk); (try clear hi)) | ((with_reducible refine gate_callee (f := 24) rfl ?_); refine goesL_ (some 30) rfl rfl Try.func24 (by kernel_rfl) rfl #[.string t425, .string t427] rfl (by (try simp only [List.map_toArray, List.map_cons, List.map_nil]); first | done | rfl | (simp only [List.length_drop, List.length_take]; rfl)) ?_; (with_reducible refine (norm_Same.calls k t425 t427 true _ A11.out).mono ?_); rintro e w22 ⟨rfl, hb⟩; refine ⟨_, rfl, ?_⟩; have n0_ := Aside0.mk (below_step (by repeat (first | (with_reducible first | exact HB.out | apply below_alloc | apply pw_below_drewN | apply below_drew1) | exact HB.out)) hb); clear HB; have HB := n0_; clear n0_; (try clear hb); (try clear hb2); (try clear hk); (try clear hi)) | ((with_reducible refine gate_callee (f := 22) rfl ?_); refine goesL_ (some 33) rfl rfl Try.func22 (by kernel_rfl) rfl #[.string t425] rfl (by (try simp only [List.map_toArray, List.map_cons, List.map_nil]); first | done | rfl | (simp only [List.length_drop, List.length_take]; rfl)) ?_; (with_reducible refine (incipitref1_Text.calls k t425 t431 t432 _ A12.out).mono ?_); rintro e w23 ⟨rfl, hb⟩; refine ⟨_, rfl, ?_⟩; have n0_ := Aside0.mk (below_step (by repeat (first | (with_reducible first | exact HB.out | apply below_alloc | apply pw_below_drewN | apply below_drew1) | exact HB.out)) hb); clear HB; have HB := n0_; clear n0_; (try clear hb); (try clear hb2); (try clear hk); (try clear hi)) | (go_at_call 24; (with_reducible refine (norm_Same.calls k t426 t425 t433 _ A16.out).mono ?_); rintro e w24 ⟨rfl, hb⟩; have n0_ := Aside0.mk (below_step (by repeat (first | (with_reducible first | exact HB.out | apply below_alloc | apply pw_below_drewN | apply below_drew1) | exact HB.out)) hb); clear HB; have HB := n0_; clear n0_; (try clear hb); (try clear hb2); (try clear hk); (try clear hi)) | (go_at_call 24; (with_reducible refine (norm_Same.calls k t425 t425 t434 _ A18.out).mono ?_); rintro e w25 ⟨rfl, hb⟩; have n0_ := Aside0.mk (below_step (by repeat (first | (with_reducible first | exact HB.out | apply below_alloc | apply pw_below_drewN | apply below_drew1) | exact HB.out)) hb); clear HB; have HB := n0_; clear n0_; (try clear hb); (try clear hb2); (try clear hk); (try clear hi)))
           go_ret
           exact ⟨by first | rfl | (simp [errW_none, errW_some] <;> rfl) | (simp [*, errW_none, errW_some] <;> rfl) | (first | (simp (disch := omega) [w64_s, errW_none, errW_some]; done) | (simp (disch := omega) [w64_s, errW_none, errW_some] <;> rfl)), by repeat (first | (with_reducible first | exact HB.out | apply below_alloc | apply pw_below_drewN | apply below_drew1) | exact HB.out)⟩
         · rw [if_neg c17] at H
           exact absurd H (by simp)
       · replace c15 := Bool.eq_false_iff.mpr c15
         subst c15
         have H1 : (none) = some r := by rw [if_neg (show ¬ (false = true) by decide)] at H; exact H
         clear H
         have H := H1
         clear H1
         exact absurd H (by simp)
     · replace c14 := Bool.eq_false_iff.mpr c14
       subst c14
       have H1 : ((norm_Same.f k t426 t425).bind fun t435 => (if (t435 == true) = true then ((norm_Same.f k t425 t425).bind fun t436 => (some (t436 == t432))) else (none))) = some r := by rw [if_neg (show ¬ (false = true) by decide)] at H; exact H
       clear H
       have H := H1
       clear H1
       replace H := Option.bind_eq_some_iff.mp H
       obtain ⟨t435, A260, H⟩ := H
       replace H : (if (t435 == true) = true then ((norm_Same.f k t425 t425).bind fun t436 => (some (t436 == t432))) else (none)) = some r := H
       have A26 := Aside0.mk A260
       clear A260
       by_cases c27 : (t435 == true) = true
       · rw [if_pos c27] at H
         have c27b0 : (t435 == true) = true := c27
         (try (have c27b1 : decide (t435 = true) = true := by simpa using c27))
         (try (have c27b2 : (t435 == true) = true := by simpa using c27))
         clear c27
         replace H := Option.bind_eq_some_iff.mp H
         obtain ⟨t436, A280, H⟩ := H
         replace H : (some (t436 == t432)) = some r := H
         have A28 := Aside0.mk A280
         clear A280
         obtain rfl := Option.some.inj H
         go_enter Try.func9, Try.ntmps9
         go_wp2_with (first | ((with_reducible refine gate_callee (f := 15) rfl ?_); refine goesL_ (some 13) rfl rfl Try.func15 (by kernel_rfl) rfl #[] rfl (by (try simp only [List.map_toArray, List.map_cons, List.map_nil]); first | done | rfl | (simp only [List.length_drop, List.length_take]; rfl)) ?_; (with_reducible refine (incipitlaw4_begun.calls k  true _ A4.out).mono ?_); rintro e w29 ⟨rfl, hb⟩; refine ⟨_, rfl, ?_⟩; have n0_ := Aside0.mk (below_step (by repeat (first | (with_reducible first | exact HB.out | apply below_alloc | apply pw_below_drewN | apply below_drew1) | exact HB.out)) hb); clear HB; have HB := n0_; clear n0_; (try clear hb); (try clear hb2); (try clear hk); (try clear hi)) | ((with_reducible refine gate_callee (f := 20) rfl ?_); refine goesL_ (some 17) rfl rfl Try.func20 (by kernel_rfl) rfl #[.string a0, .int .i64 60] rfl (by (try simp only [List.map_toArray, List.map_cons, List.map_nil]); first | done | rfl | (simp only [List.length_drop, List.length_take]; rfl)) ?_; (with_reducible refine (incipitlaw1_Cut.calls a0 60 t425 _ A6.out).mono ?_); rintro e w' ⟨rfl, ⟨nd, rfl⟩⟩; refine ⟨_, rfl, ?_⟩) | ((with_reducible refine gate_callee (f := 20) rfl ?_); refine goesL_ (some 19) rfl rfl Try.func20 (by kernel_rfl) rfl #[.string a1, .int .i64 60] rfl (by (try simp only [List.map_toArray, List.map_cons, List.map_nil]); first | done | rfl | (simp only [List.length_drop, List.length_take]; rfl)) ?_; (with_reducible refine (incipitlaw1_Cut.calls a1 60 t426 _ A7.out).mono ?_); rintro e w' ⟨rfl, ⟨nd, rfl⟩⟩; refine ⟨_, rfl, ?_⟩) | ((with_reducible refine gate_callee (f := 20) rfl ?_); refine goesL_ (some 21) rfl rfl Try.func20 (by kernel_rfl) rfl #[.string a2, .int .i64 60] rfl (by (try simp only [List.map_toArray, List.map_cons, List.map_nil]); first | done | rfl | (simp only [List.length_drop, List.length_take]; rfl)) ?_; (with_reducible refine (incipitlaw1_Cut.calls a2 60 t427 _ A8.out).mono ?_); rintro e w' ⟨rfl, ⟨nd, rfl⟩⟩; refine ⟨_, rfl, ?_⟩) | ((with_reducible refine gate_callee (f := 24) rfl ?_); refine goesL_ (some 24) rfl rfl Try.func24 (by kernel_rfl) rfl #[.string t425, .string t426] rfl (by (try simp only [List.map_toArray, List.map_cons, List.map_nil]); first | done | rfl | (simp only [List.length_drop, List.length_take]; rfl)) ?_; (with_reducible refine (norm_Same.calls k t425 t426 true _ A9.out).mono ?_); rintro e w30 ⟨rfl, hb⟩; refine ⟨_, rfl, ?_⟩; have n0_ := Aside0.mk (below_step (by repeat (first | (with_reducible first | exact HB.out | apply below_alloc | apply pw_below_drewN | apply below_drew1) | exact HB.out)) hb); clear HB; have HB := n0_; clear n0_; (try clear hb); (try clear hb2); (try clear hk); (try clear hi)) | ((with_reducible refine gate_callee (f := 24) rfl ?_); refine goesL_ (some 27) rfl rfl Try.func24 (by kernel_rfl) rfl #[.string t426, .string t427] rfl (by (try simp only [List.map_toArray, List.map_cons, List.map_nil]); first | done | rfl | (simp only [List.length_drop, List.length_take]; rfl)) ?_; (with_reducible refine (norm_Same.calls k t426 t427 false _ A10.out).mono ?_); rintro e w31 ⟨rfl, hb⟩; refine ⟨_, rfl, ?_⟩; have n0_ := Aside0.mk (below_step (by repeat (first | (with_reducible first | exact HB.out | apply below_alloc | apply pw_below_drewN | apply below_drew1) | exact HB.out)) hb); clear HB; have HB := n0_; clear n0_; (try clear hb); (try clear hb2); (try clear hk); (try clear hi)) | ((with_reducible refine gate_callee (f := 24) rfl ?_); refine goesL_ (some 30) rfl rfl Try.func24 (by kernel_rfl) rfl #[.string t425, .string t427] rfl (by (try simp only [List.map_toArray, List.map_cons, List.map_nil]); first | done | rfl | (simp only [List.length_drop, List.length_take]; rfl)) ?_; (with_reducible refine (norm_Same.calls k t425 t427 t430 _ A11.out).mono ?_); rintro e w32 ⟨rfl, hb⟩; refine ⟨_, rfl, ?_⟩; have n0_ := Aside0.mk (below_step (by repeat (first | (with_reducible first | exact HB.out | apply below_alloc | apply pw_below_drewN | apply below_drew1) | exact HB.out)) hb); clear HB; have HB := n0_; clear n0_; (try clear hb); (try clear hb2); (try clear hk); (try clear hi)) | ((with_reducible refine gate_callee (f := 22) rfl ?_); refine goesL_ (some 33) rfl rfl Try.func22 (by kernel_rfl) rfl #[.string t425] rfl (by (try simp only [List.map_toArray, List.map_cons, List.map_nil]); first | done | rfl | (simp only [List.length_drop, List.length_take]; rfl)) ?_; (with_reducible refine (incipitref1_Text.calls k t425 t431 t432 _ A12.out).mono ?_); rintro e w33 ⟨rfl, hb⟩; refine ⟨_, rfl, ?_⟩; have n0_ := Aside0.mk (below_step (by repeat (first | (with_reducible first | exact HB.out | apply below_alloc | apply pw_below_drewN | apply below_drew1) | exact HB.out)) hb); clear HB; have HB := n0_; clear n0_; (try clear hb); (try clear hb2); (try clear hk); (try clear hi)) | (go_at_call 24; (with_reducible refine (norm_Same.calls k t426 t425 t435 _ A26.out).mono ?_); rintro e w34 ⟨rfl, hb⟩; have n0_ := Aside0.mk (below_step (by repeat (first | (with_reducible first | exact HB.out | apply below_alloc | apply pw_below_drewN | apply below_drew1) | exact HB.out)) hb); clear HB; have HB := n0_; clear n0_; (try clear hb); (try clear hb2); (try clear hk); (try clear hi)) | (go_at_call 24; (with_reducible refine (norm_Same.calls k t425 t425 t436 _ A28.out).mono ?_); rintro e w35 ⟨rfl, hb⟩; have n0_ := Aside0.mk (below_step (by repeat (first | (with_reducible first | exact HB.out | apply below_alloc | apply pw_below_drewN | apply below_drew1) | exact HB.out)) hb); clear HB; have HB := n0_; clear n0_; (try clear hb); (try clear hb2); (try clear hk); (try clear hi)))
         go_ret
         exact ⟨by first | rfl | (simp [errW_none, errW_some] <;> rfl) | (simp [*, errW_none, errW_some] <;> rfl) | (first | (simp (disch := omega) [w64_s, errW_none, errW_some]; done) | (simp (disch := omega) [w64_s, errW_none, errW_some] <;> rfl)), by repeat (first | (with_reducible first | exact HB.out | apply below_alloc | apply pw_below_drewN | apply below_drew1) | exact HB.out)⟩
       · rw [if_neg c27] at H
         exact absurd H (by simp)
   · replace c13 := Bool.eq_false_iff.mpr c13
     subst c13
     have H1 : ((norm_Same.f k t426 t425).bind fun t437 => (if (t437 == false) = true then ((norm_Same.f k t425 t425).bind fun t438 => (some (t438 == t432))) else (none))) = some r := by rw [if_neg (show ¬ (false = true) by decide)] at H; exact H
     clear H
     have H := H1
     clear H1
     replace H := Option.bind_eq_some_iff.mp H
     obtain ⟨t437, A360, H⟩ := H
     replace H : (if (t437 == false) = true then ((norm_Same.f k t425 t425).bind fun t438 => (some (t438 == t432))) else (none)) = some r := H
     have A36 := Aside0.mk A360
     clear A360
     by_cases c37 : (t437 == false) = true
     · rw [if_pos c37] at H
       have c37b0 : (t437 == false) = true := c37
       (try (have c37b1 : decide (t437 = false) = true := by simpa using c37))
       (try (have c37b2 : (t437 == false) = true := by simpa using c37))
       clear c37
       replace H := Option.bind_eq_some_iff.mp H
       obtain ⟨t438, A380, H⟩ := H
       replace H : (some (t438 == t432)) = some r := H
       have A38 := Aside0.mk A380
       clear A380
       obtain rfl := Option.some.inj H
       go_enter Try.func9, Try.ntmps9
       go_wp2_with (first | ((with_reducible refine gate_callee (f := 15) rfl ?_); refine goesL_ (some 13) rfl rfl Try.func15 (by kernel_rfl) rfl #[] rfl (by (try simp only [List.map_toArray, List.map_cons, List.map_nil]); first | done | rfl | (simp only [List.length_drop, List.length_take]; rfl)) ?_; (with_reducible refine (incipitlaw4_begun.calls k  true _ A4.out).mono ?_); rintro e w39 ⟨rfl, hb⟩; refine ⟨_, rfl, ?_⟩; have n0_ := Aside0.mk (below_step (by repeat (first | (with_reducible first | exact HB.out | apply below_alloc | apply pw_below_drewN | apply below_drew1) | exact HB.out)) hb); clear HB; have HB := n0_; clear n0_; (try clear hb); (try clear hb2); (try clear hk); (try clear hi)) | ((with_reducible refine gate_callee (f := 20) rfl ?_); refine goesL_ (some 17) rfl rfl Try.func20 (by kernel_rfl) rfl #[.string a0, .int .i64 60] rfl (by (try simp only [List.map_toArray, List.map_cons, List.map_nil]); first | done | rfl | (simp only [List.length_drop, List.length_take]; rfl)) ?_; (with_reducible refine (incipitlaw1_Cut.calls a0 60 t425 _ A6.out).mono ?_); rintro e w' ⟨rfl, ⟨nd, rfl⟩⟩; refine ⟨_, rfl, ?_⟩) | ((with_reducible refine gate_callee (f := 20) rfl ?_); refine goesL_ (some 19) rfl rfl Try.func20 (by kernel_rfl) rfl #[.string a1, .int .i64 60] rfl (by (try simp only [List.map_toArray, List.map_cons, List.map_nil]); first | done | rfl | (simp only [List.length_drop, List.length_take]; rfl)) ?_; (with_reducible refine (incipitlaw1_Cut.calls a1 60 t426 _ A7.out).mono ?_); rintro e w' ⟨rfl, ⟨nd, rfl⟩⟩; refine ⟨_, rfl, ?_⟩) | ((with_reducible refine gate_callee (f := 20) rfl ?_); refine goesL_ (some 21) rfl rfl Try.func20 (by kernel_rfl) rfl #[.string a2, .int .i64 60] rfl (by (try simp only [List.map_toArray, List.map_cons, List.map_nil]); first | done | rfl | (simp only [List.length_drop, List.length_take]; rfl)) ?_; (with_reducible refine (incipitlaw1_Cut.calls a2 60 t427 _ A8.out).mono ?_); rintro e w' ⟨rfl, ⟨nd, rfl⟩⟩; refine ⟨_, rfl, ?_⟩) | ((with_reducible refine gate_callee (f := 24) rfl ?_); refine goesL_ (some 24) rfl rfl Try.func24 (by kernel_rfl) rfl #[.string t425, .string t426] rfl (by (try simp only [List.map_toArray, List.map_cons, List.map_nil]); first | done | rfl | (simp only [List.length_drop, List.length_take]; rfl)) ?_; (with_reducible refine (norm_Same.calls k t425 t426 false _ A9.out).mono ?_); rintro e w40 ⟨rfl, hb⟩; refine ⟨_, rfl, ?_⟩; have n0_ := Aside0.mk (below_step (by repeat (first | (with_reducible first | exact HB.out | apply below_alloc | apply pw_below_drewN | apply below_drew1) | exact HB.out)) hb); clear HB; have HB := n0_; clear n0_; (try clear hb); (try clear hb2); (try clear hk); (try clear hi)) | ((with_reducible refine gate_callee (f := 24) rfl ?_); refine goesL_ (some 27) rfl rfl Try.func24 (by kernel_rfl) rfl #[.string t426, .string t427] rfl (by (try simp only [List.map_toArray, List.map_cons, List.map_nil]); first | done | rfl | (simp only [List.length_drop, List.length_take]; rfl)) ?_; (with_reducible refine (norm_Same.calls k t426 t427 t429 _ A10.out).mono ?_); rintro e w41 ⟨rfl, hb⟩; refine ⟨_, rfl, ?_⟩; have n0_ := Aside0.mk (below_step (by repeat (first | (with_reducible first | exact HB.out | apply below_alloc | apply pw_below_drewN | apply below_drew1) | exact HB.out)) hb); clear HB; have HB := n0_; clear n0_; (try clear hb); (try clear hb2); (try clear hk); (try clear hi)) | ((with_reducible refine gate_callee (f := 24) rfl ?_); refine goesL_ (some 30) rfl rfl Try.func24 (by kernel_rfl) rfl #[.string t425, .string t427] rfl (by (try simp only [List.map_toArray, List.map_cons, List.map_nil]); first | done | rfl | (simp only [List.length_drop, List.length_take]; rfl)) ?_; (with_reducible refine (norm_Same.calls k t425 t427 t430 _ A11.out).mono ?_); rintro e w42 ⟨rfl, hb⟩; refine ⟨_, rfl, ?_⟩; have n0_ := Aside0.mk (below_step (by repeat (first | (with_reducible first | exact HB.out | apply below_alloc | apply pw_below_drewN | apply below_drew1) | exact HB.out)) hb); clear HB; have HB := n0_; clear n0_; (try clear hb); (try clear hb2); (try clear hk); (try clear hi)) | ((with_reducible refine gate_callee (f := 22) rfl ?_); refine goesL_ (some 33) rfl rfl Try.func22 (by kernel_rfl) rfl #[.string t425] rfl (by (try simp only [List.map_toArray, List.map_cons, List.map_nil]); first | done | rfl | (simp only [List.length_drop, List.length_take]; rfl)) ?_; (with_reducible refine (incipitref1_Text.calls k t425 t431 t432 _ A12.out).mono ?_); rintro e w43 ⟨rfl, hb⟩; refine ⟨_, rfl, ?_⟩; have n0_ := Aside0.mk (below_step (by repeat (first | (with_reducible first | exact HB.out | apply below_alloc | apply pw_below_drewN | apply below_drew1) | exact HB.out)) hb); clear HB; have HB := n0_; clear n0_; (try clear hb); (try clear hb2); (try clear hk); (try clear hi)) | (go_at_call 24; (with_reducible refine (norm_Same.calls k t426 t425 t437 _ A36.out).mono ?_); rintro e w44 ⟨rfl, hb⟩; have n0_ := Aside0.mk (below_step (by repeat (first | (with_reducible first | exact HB.out | apply below_alloc | apply pw_below_drewN | apply below_drew1) | exact HB.out)) hb); clear HB; have HB := n0_; clear n0_; (try clear hb); (try clear hb2); (try clear hk); (try clear hi)) | (go_at_call 24; (with_reducible refine (norm_Same.calls k t425 t425 t438 _ A38.out).mono ?_); rintro e w45 ⟨rfl, hb⟩; have n0_ := Aside0.mk (below_step (by repeat (first | (with_reducible first | exact HB.out | apply below_alloc | apply pw_below_drewN | apply below_drew1) | exact HB.out)) hb); clear HB; have HB := n0_; clear n0_; (try clear hb); (try clear hb2); (try clear hk); (try clear hi)))
       go_ret
       exact ⟨by first | rfl | (simp [errW_none, errW_some] <;> rfl) | (simp [*, errW_none, errW_some] <;> rfl) | (first | (simp (disch := omega) [w64_s, errW_none, errW_some]; done) | (simp (disch := omega) [w64_s, errW_none, errW_some] <;> rfl)), by repeat (first | (with_reducible first | exact HB.out | apply below_alloc | apply pw_below_drewN | apply below_drew1) | exact HB.out)⟩
     · rw [if_neg c37] at H
       exact absurd H (by simp)
 · replace c5 := Bool.eq_false_iff.mpr c5
   subst c5
   have H1 : (none) = some r := by rw [if_neg (show ¬ (false = true) by decide)] at H; exact H
   clear H
   have H := H1
   clear H1
   exact absurd H (by simp)

/-- THE ONE PURE STATEMENT of incipitlaw4_NormSame: yours. -/
def incipitlaw4_NormSame.Pure : Prop := ∀ (a0 : ByteArray) (a1 : ByteArray) (a2 : ByteArray), a0.size ≤ 140737488351232 → a1.size ≤ 140737488351232 → a2.size ≤ 140737488351232 → ∃ k, incipitlaw4_NormSame.f k a0 a1 a2 = some true
theorem incipitlaw4_NormSame.walk (P : incipitlaw4_NormSame.Pure) (a0 : ByteArray) (a1 : ByteArray) (a2 : ByteArray) (w : World) (w0 : a0.size ≤ 140737488351232) (w1 : a1.size ≤ 140737488351232) (w2 : a2.size ≤ 140737488351232) :
 Calls Try.prog 9 #[.string a0, .string a1, .string a2] w fun e w' => e = .returned (.bool true) ∧ Below w.heap.size w w' := by
 obtain ⟨k, h⟩ := P a0 a1 a2 w0 w1 w2
 refine (incipitlaw4_NormSame.calls k a0 a1 a2 true w h).mono ?_
 rintro e w' ⟨rfl, hd⟩
 exact ⟨rfl, hd⟩

end Go.Proofs.Ytklggdenloenlaa.MNorm
