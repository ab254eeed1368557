-- written by mp.py, a program of this session's over the kit's printer
import Derived.Test.YtklggdenloenlaaV1
import Derived.Laws.Cover1
import Derived.Test.YtklggdenloenlaaMNormx0
import Derived.Test.YtklggdenloenlaaKCut
import Derived.Test.YtklggdenloenlaaK17
import Derived.Test.YtklggdenloenlaaK19
namespace Go.Proofs.Ytklggdenloenlaa.MNorm
open Go.RowKit Go.Proofs.YtklggdenloenlaaW.PrintWords Go.Proofs.YtklggdenloenlaaW.PrintLast Go.Proofs.YtklggdenloenlaaW.PrintMore
attribute [local go_sem] max2_int min2_int max_two min_two max_three min_three max_four min_four   -- for this text's walks alone
set_option linter.unusedVariables false
set_option linter.unusedSimpArgs false

theorem less_tot_ : ∀ l m : List UInt8, (Op.bytesLess l m || l == m) = !(Op.bytesLess m l)
 | [], [] => rfl
 | [], _ :: _ => rfl
 | _ :: _, [] => rfl
 | a :: l, b :: m => by
  have h := less_tot_ l m
  have e : (a :: l == b :: m) = (a == b && l == m) := rfl
  rw [e, Op.bytesLess, Op.bytesLess]
  by_cases h1 : a = b
  · subst h1; simp [h]
  · have h2 : (a == b) = false := by simpa using h1
    have h3 : (b == a) = false := by simpa using fun z => h1 z.symm
    rw [h2, h3]
    by_cases h4 : a < b
    · have h5 : ¬ b < a := by rw [UInt8.lt_iff_toNat_lt] at h4 ⊢; omega
      simp [h4, h5]
    · have h5 : b < a := by
        have h6 : a.toNat ≠ b.toNat := fun z => h1 (UInt8.toNat_inj.1 z)
        rw [UInt8.lt_iff_toNat_lt] at h4 ⊢; omega
      simp [h4, h5]

/-! ### incipitlaw6_KeyBetween: function 12 -/
def incipitlaw6_KeyBetween.f (k : Nat) (a0 : ByteArray) (a1 : ByteArray) : Option (Bool) := (incipitlaw6_begun.f k).bind fun t476 => (if t476 = true then ((incipitlaw1_Cut.f a0 60).bind fun t477 => ((incipitlaw1_Cut.f a1 60).bind fun t478 => ((ckey_Between.f k t477 t478).bind fun t479 => ((incipitref1_Between.f k t477 t478).bind fun t480 => (if t479.toList = t480.toList then (if (t479.size : Int) > (t477.size : Int) then (none) else (if ((Op.bytesLess t477.toList t478.toList) = true) then (if ((Op.bytesLess t479.toList t477.toList) = true) then (none) else (some (Op.bytesLess t479.toList t478.toList))) else (if t479.toList = t477.toList then (some true) else (if ((Op.bytesLess t479.toList t477.toList) = true) then (none) else (some (Op.bytesLess t479.toList t478.toList)))))) else (none)))))) else (none))
theorem incipitlaw6_KeyBetween.mono : ∀ a0 a1 k, LeO (incipitlaw6_KeyBetween.f k a0 a1) (incipitlaw6_KeyBetween.f (k + 1) a0 a1) := by
 intro a0 a1 k
 unfold incipitlaw6_KeyBetween.f
 repeat' first
  | (with_reducible exact ckey_Between.mono _ _ _)
  | (with_reducible exact incipitlaw6_begun.mono _)
  | (with_reducible exact incipitref1_Between.mono _ _ _)
  | (with_reducible exact LeO.refl _)
  | (with_reducible exact LeO.none _)
  | (with_reducible refine LeO.ite ?_ ?_)
  | (with_reducible refine LeO.bind ?_ (fun _ => ?_))
  | exact ckey_Between.mono _ _ _
  | exact incipitlaw6_begun.mono _
  | exact incipitref1_Between.mono _ _ _
  | exact LeO.none _
  | refine LeO.ite ?_ ?_
  | refine LeO.bind ?_ (fun _ => ?_)
set_option maxHeartbeats 8000000 in
set_option maxRecDepth 100000 in
theorem incipitlaw6_KeyBetween.calls (k : Nat) (a0 : ByteArray) (a1 : ByteArray) (r : Bool) (w : World) (h : incipitlaw6_KeyBetween.f k a0 a1 = some r) :
 Calls Try.prog 12 #[.string a0, .string a1] w fun e w' => e = .returned (.bool r) ∧ Below w.heap.size w w' := by
 have HB := Aside0.mk (Below.refl w.heap.size w)
 have H : ((incipitlaw6_begun.f k).bind fun t476 => (if t476 = true then ((incipitlaw1_Cut.f a0 60).bind fun t477 => ((incipitlaw1_Cut.f a1 60).bind fun t478 => ((ckey_Between.f k t477 t478).bind fun t479 => ((incipitref1_Between.f k t477 t478).bind fun t480 => (if t479.toList = t480.toList then (if (t479.size : Int) > (t477.size : Int) then (none) else (if ((Op.bytesLess t477.toList t478.toList) = true) then (if ((Op.bytesLess t479.toList t477.toList) = true) then (none) else (some (Op.bytesLess t479.toList t478.toList))) else (if t479.toList = t477.toList then (some true) else (if ((Op.bytesLess t479.toList t477.toList) = true) then (none) else (some (Op.bytesLess t479.toList t478.toList)))))) else (none)))))) else (none))) = some r := h
 clear h
 replace H := Option.bind_eq_some_iff.mp H
 obtain ⟨t476, A30, H⟩ := H
 replace H : (if t476 = true then ((incipitlaw1_Cut.f a0 60).bind fun t477 => ((incipitlaw1_Cut.f a1 60).bind fun t478 => ((ckey_Between.f k t477 t478).bind fun t479 => ((incipitref1_Between.f k t477 t478).bind fun t480 => (if t479.toList = t480.toList then (if (t479.size : Int) > (t477.size : Int) then (none) else (if ((Op.bytesLess t477.toList t478.toList) = true) then (if ((Op.bytesLess t479.toList t477.toList) = true) then (none) else (some (Op.bytesLess t479.toList t478.toList))) else (if t479.toList = t477.toList then (some true) else (if ((Op.bytesLess t479.toList t477.toList) = true) then (none) else (some (Op.bytesLess t479.toList t478.toList)))))) else (none)))))) else (none)) = some r := H
 have A3 := Aside0.mk A30
 clear A30
 by_cases c4 : t476 = true
 · subst c4
   have H1 : ((incipitlaw1_Cut.f a0 60).bind fun t477 => ((incipitlaw1_Cut.f a1 60).bind fun t478 => ((ckey_Between.f k t477 t478).bind fun t479 => ((incipitref1_Between.f k t477 t478).bind fun t480 => (if t479.toList = t480.toList then (if (t479.size : Int) > (t477.size : Int) then (none) else (if ((Op.bytesLess t477.toList t478.toList) = true) then (if ((Op.bytesLess t479.toList t477.toList) = true) then (none) else (some (Op.bytesLess t479.toList t478.toList))) else (if t479.toList = t477.toList then (some true) else (if ((Op.bytesLess t479.toList t477.toList) = true) then (none) else (some (Op.bytesLess t479.toList t478.toList)))))) else (none)))))) = some r := by rw [if_pos rfl] at H; exact H
   clear H
   have H := H1
   clear H1
   replace H := Option.bind_eq_some_iff.mp H
   obtain ⟨t477, A50, H⟩ := H
   replace H : ((incipitlaw1_Cut.f a1 60).bind fun t478 => ((ckey_Between.f k t477 t478).bind fun t479 => ((incipitref1_Between.f k t477 t478).bind fun t480 => (if t479.toList = t480.toList then (if (t479.size : Int) > (t477.size : Int) then (none) else (if ((Op.bytesLess t477.toList t478.toList) = true) then (if ((Op.bytesLess t479.toList t477.toList) = true) then (none) else (some (Op.bytesLess t479.toList t478.toList))) else (if t479.toList = t477.toList then (some true) else (if ((Op.bytesLess t479.toList t477.toList) = true) then (none) else (some (Op.bytesLess t479.toList t478.toList)))))) else (none))))) = some r := H
   have A5 := Aside0.mk A50
   clear A50
   replace H := Option.bind_eq_some_iff.mp H
   obtain ⟨t478, A60, H⟩ := H
   replace H : ((ckey_Between.f k t477 t478).bind fun t479 => ((incipitref1_Between.f k t477 t478).bind fun t480 => (if t479.toList = t480.toList then (if (t479.size : Int) > (t477.size : Int) then (none) else (if ((Op.bytesLess t477.toList t478.toList) = true) then (if ((Op.bytesLess t479.toList t477.toList) = true) then (none) else (some (Op.bytesLess t479.toList t478.toList))) else (if t479.toList = t477.toList then (some true) else (if ((Op.bytesLess t479.toList t477.toList) = true) then (none) else (some (Op.bytesLess t479.toList t478.toList)))))) else (none)))) = some r := H
   have A6 := Aside0.mk A60
   clear A60
   replace H := Option.bind_eq_some_iff.mp H
   obtain ⟨t479, A70, H⟩ := H
   replace H : ((incipitref1_Between.f k t477 t478).bind fun t480 => (if t479.toList = t480.toList then (if (t479.size : Int) > (t477.size : Int) then (none) else (if ((Op.bytesLess t477.toList t478.toList) = true) then (if ((Op.bytesLess t479.toList t477.toList) = true) then (none) else (some (Op.bytesLess t479.toList t478.toList))) else (if t479.toList = t477.toList then (some true) else (if ((Op.bytesLess t479.toList t477.toList) = true) then (none) else (some (Op.bytesLess t479.toList t478.toList)))))) else (none))) = some r := H
   have A7 := Aside0.mk A70
   clear A70
   replace H := Option.bind_eq_some_iff.mp H
   obtain ⟨t480, A80, H⟩ := H
   replace H : (if t479.toList = t480.toList then (if (t479.size : Int) > (t477.size : Int) then (none) else (if ((Op.bytesLess t477.toList t478.toList) = true) then (if ((Op.bytesLess t479.toList t477.toList) = true) then (none) else (some (Op.bytesLess t479.toList t478.toList))) else (if t479.toList = t477.toList then (some true) else (if ((Op.bytesLess t479.toList t477.toList) = true) then (none) else (some (Op.bytesLess t479.toList t478.toList)))))) else (none)) = some r := H
   have A8 := Aside0.mk A80
   clear A80
   by_cases c9 : t479.toList = t480.toList
   · rw [if_pos c9] at H
     have c9b0 : (t479.toList == t480.toList) = true := beq_iff_eq.mpr c9
     have c9b1 : (t479.toList != t480.toList) = false := bne_eq_false_iff_eq.mpr c9
     clear c9
     by_cases c10 : (t479.size : Int) > (t477.size : Int)
     · rw [if_pos c10] at H
       exact absurd H (by simp)
     · rw [if_neg c10] at H
       have c10b0 : decide ((t477.size : Int) < (t479.size : Int)) = false := decide_eq_false c10
       have c10b1 : decide (t477.size < t479.size) = false := decide_eq_false (fun h => c10 (Int.ofNat_lt.mpr h))
       clear c10
       by_cases c11 : ((Op.bytesLess t477.toList t478.toList) = true)
       · rw [if_pos c11] at H
         have c11b0 : (Op.bytesLess t477.toList t478.toList) = true := c11
         have c11b0t : (Op.bytesLess t478.toList t477.toList || t478.toList == t477.toList) = false := by rw [less_tot_, c11b0]; rfl
         clear c11
         by_cases c12 : ((Op.bytesLess t479.toList t477.toList) = true)
         · rw [if_pos c12] at H
           exact absurd H (by simp)
         · rw [if_neg c12] at H
           have c12b0 : (Op.bytesLess t479.toList t477.toList) = false := by simpa using c12
           have c12b0t : (Op.bytesLess t477.toList t479.toList || t477.toList == t479.toList) = true := by rw [less_tot_, c12b0]; rfl
           clear c12
           obtain rfl := Option.some.inj H
           go_enter Try.func12, Try.ntmps12
           go_wp2_with (first | ((with_reducible refine gate_callee (f := 29) rfl ?_); refine goesL_ (some 7) rfl rfl Try.func29 (by kernel_rfl) rfl #[] rfl (by (try simp only [List.map_toArray, List.map_cons, List.map_nil]); first | done | rfl | (simp only [List.length_drop, List.length_take]; rfl)) ?_; (with_reducible refine (incipitlaw6_begun.calls k  true _ A3.out).mono ?_); rintro e w13 ⟨rfl, hb⟩; refine ⟨_, rfl, ?_⟩; have n0_ := Aside0.mk (below_step (by repeat (first | (with_reducible first | exact HB.out | apply below_alloc | apply pw_below_drewN | apply below_drew1) | exact HB.out)) hb); clear HB; have HB := n0_; clear n0_; (try clear hb); (try clear hb2); (try clear hk); (try clear hi)) | ((with_reducible refine gate_callee (f := 20) rfl ?_); refine goesL_ (some 11) rfl rfl Try.func20 (by kernel_rfl) rfl #[.string a0, .int .i64 60] rfl (by (try simp only [List.map_toArray, List.map_cons, List.map_nil]); first | done | rfl | (simp only [List.length_drop, List.length_take]; rfl)) ?_; (with_reducible refine (incipitlaw1_Cut.calls a0 60 t477 _ A5.out).mono ?_); rintro e w' ⟨rfl, ⟨nd, rfl⟩⟩; refine ⟨_, rfl, ?_⟩) | ((with_reducible refine gate_callee (f := 20) rfl ?_); refine goesL_ (some 13) rfl rfl Try.func20 (by kernel_rfl) rfl #[.string a1, .int .i64 60] rfl (by (try simp only [List.map_toArray, List.map_cons, List.map_nil]); first | done | rfl | (simp only [List.length_drop, List.length_take]; rfl)) ?_; (with_reducible refine (incipitlaw1_Cut.calls a1 60 t478 _ A6.out).mono ?_); rintro e w' ⟨rfl, ⟨nd, rfl⟩⟩; refine ⟨_, rfl, ?_⟩) | ((with_reducible refine gate_callee (f := 36) rfl ?_); refine goesL_ (some 16) rfl rfl Try.func36 (by kernel_rfl) rfl #[.string t477, .string t478] rfl (by (try simp only [List.map_toArray, List.map_cons, List.map_nil]); first | done | rfl | (simp only [List.length_drop, List.length_take]; rfl)) ?_; (with_reducible refine (ckey_Between.calls k t477 t478 t479 _ A7.out).mono ?_); rintro e w14 ⟨rfl, hb⟩; refine ⟨_, rfl, ?_⟩; have n0_ := Aside0.mk (below_step (by repeat (first | (with_reducible first | exact HB.out | apply below_alloc | apply pw_below_drewN | apply below_drew1) | exact HB.out)) hb); clear HB; have HB := n0_; clear n0_; (try clear hb); (try clear hb2); (try clear hk); (try clear hi)) | ((with_reducible refine gate_callee (f := 37) rfl ?_); refine goesL_ (some 20) rfl rfl Try.func37 (by kernel_rfl) rfl #[.string t477, .string t478] rfl (by (try simp only [List.map_toArray, List.map_cons, List.map_nil]); first | done | rfl | (simp only [List.length_drop, List.length_take]; rfl)) ?_; (with_reducible refine (incipitref1_Between.calls k t477 t478 t480 _ A8.out).mono ?_); rintro e w15 ⟨rfl, hb⟩; refine ⟨_, rfl, ?_⟩; have n0_ := Aside0.mk (below_step (by repeat (first | (with_reducible first | exact HB.out | apply below_alloc | apply pw_below_drewN | apply below_drew1) | exact HB.out)) hb); clear HB; have HB := n0_; clear n0_; (try clear hb); (try clear hb2); (try clear hk); (try clear hi)))
           go_ret
           exact ⟨by first | rfl | (simp [errW_none, errW_some] <;> rfl) | (simp [*, errW_none, errW_some] <;> rfl) | (first | (simp (disch := omega) [w64_s, errW_none, errW_some]; done) | (simp (disch := omega) [w64_s, errW_none, errW_some] <;> rfl)), by repeat (first | (with_reducible first | exact HB.out | apply below_alloc | apply pw_below_drewN | apply below_drew1) | exact HB.out)⟩
       · rw [if_neg c11] at H
         have c11b0 : (Op.bytesLess t477.toList t478.toList) = false := by simpa using c11
         have c11b0t : (Op.bytesLess t478.toList t477.toList || t478.toList == t477.toList) = true := by rw [less_tot_, c11b0]; rfl
         clear c11
         by_cases c16 : t479.toList = t477.toList
         · rw [if_pos c16] at H
           have c16b0 : (t479.toList == t477.toList) = true := beq_iff_eq.mpr c16
           have c16b1 : (t479.toList != t477.toList) = false := bne_eq_false_iff_eq.mpr c16
           clear c16
           obtain rfl := Option.some.inj H
           go_enter Try.func12, Try.ntmps12
           go_wp2_with (first | ((with_reducible refine gate_callee (f := 29) rfl ?_); refine goesL_ (some 7) rfl rfl Try.func29 (by kernel_rfl) rfl #[] rfl (by (try simp only [List.map_toArray, List.map_cons, List.map_nil]); first | done | rfl | (simp only [List.length_drop, List.length_take]; rfl)) ?_; (with_reducible refine (incipitlaw6_begun.calls k  true _ A3.out).mono ?_); rintro e w17 ⟨rfl, hb⟩; refine ⟨_, rfl, ?_⟩; have n0_ := Aside0.mk (below_step (by repeat (first | (with_reducible first | exact HB.out | apply below_alloc | apply pw_below_drewN | apply below_drew1) | exact HB.out)) hb); clear HB; have HB := n0_; clear n0_; (try clear hb); (try clear hb2); (try clear hk); (try clear hi)) | ((with_reducible refine gate_callee (f := 20) rfl ?_); refine goesL_ (some 11) rfl rfl Try.func20 (by kernel_rfl) rfl #[.string a0, .int .i64 60] rfl (by (try simp only [List.map_toArray, List.map_cons, List.map_nil]); first | done | rfl | (simp only [List.length_drop, List.length_take]; rfl)) ?_; (with_reducible refine (incipitlaw1_Cut.calls a0 60 t477 _ A5.out).mono ?_); rintro e w' ⟨rfl, ⟨nd, rfl⟩⟩; refine ⟨_, rfl, ?_⟩) | ((with_reducible refine gate_callee (f := 20) rfl ?_); refine goesL_ (some 13) rfl rfl Try.func20 (by kernel_rfl) rfl #[.string a1, .int .i64 60] rfl (by (try simp only [List.map_toArray, List.map_cons, List.map_nil]); first | done | rfl | (simp only [List.length_drop, List.length_take]; rfl)) ?_; (with_reducible refine (incipitlaw1_Cut.calls a1 60 t478 _ A6.out).mono ?_); rintro e w' ⟨rfl, ⟨nd, rfl⟩⟩; refine ⟨_, rfl, ?_⟩) | ((with_reducible refine gate_callee (f := 36) rfl ?_); refine goesL_ (some 16) rfl rfl Try.func36 (by kernel_rfl) rfl #[.string t477, .string t478] rfl (by (try simp only [List.map_toArray, List.map_cons, List.map_nil]); first | done | rfl | (simp only [List.length_drop, List.length_take]; rfl)) ?_; (with_reducible refine (ckey_Between.calls k t477 t478 t479 _ A7.out).mono ?_); rintro e w18 ⟨rfl, hb⟩; refine ⟨_, rfl, ?_⟩; have n0_ := Aside0.mk (below_step (by repeat (first | (with_reducible first | exact HB.out | apply below_alloc | apply pw_below_drewN | apply below_drew1) | exact HB.out)) hb); clear HB; have HB := n0_; clear n0_; (try clear hb); (try clear hb2); (try clear hk); (try clear hi)) | ((with_reducible refine gate_callee (f := 37) rfl ?_); refine goesL_ (some 20) rfl rfl Try.func37 (by kernel_rfl) rfl #[.string t477, .string t478] rfl (by (try simp only [List.map_toArray, List.map_cons, List.map_nil]); first | done | rfl | (simp only [List.length_drop, List.length_take]; rfl)) ?_; (with_reducible refine (incipitref1_Between.calls k t477 t478 t480 _ A8.out).mono ?_); rintro e w19 ⟨rfl, hb⟩; refine ⟨_, rfl, ?_⟩; have n0_ := Aside0.mk (below_step (by repeat (first | (with_reducible first | exact HB.out | apply below_alloc | apply pw_below_drewN | apply below_drew1) | exact HB.out)) hb); clear HB; have HB := n0_; clear n0_; (try clear hb); (try clear hb2); (try clear hk); (try clear hi)))
           go_ret
           exact ⟨by first | rfl | (simp [errW_none, errW_some] <;> rfl) | (simp [*, errW_none, errW_some] <;> rfl) | (first | (simp (disch := omega) [w64_s, errW_none, errW_some]; done) | (simp (disch := omega) [w64_s, errW_none, errW_some] <;> rfl)), by repeat (first | (with_reducible first | exact HB.out | apply below_alloc | apply pw_below_drewN | apply below_drew1) | exact HB.out)⟩
         · rw [if_neg c16] at H
           have c16b0 : (t479.toList == t477.toList) = false := beq_eq_false_iff_ne.mpr c16
           have c16b1 : (t479.toList != t477.toList) = true := bne_iff_ne.mpr c16
           by_cases c20 : ((Op.bytesLess t479.toList t477.toList) = true)
           · rw [if_pos c20] at H
             exact absurd H (by simp)
           · rw [if_neg c20] at H
             have c20b0 : (Op.bytesLess t479.toList t477.toList) = false := by simpa using c20
             have c20b0t : (Op.bytesLess t477.toList t479.toList || t477.toList == t479.toList) = true := by rw [less_tot_, c20b0]; rfl
             clear c20
             obtain rfl := Option.some.inj H
             go_enter Try.func12, Try.ntmps12
             go_wp2_with (first | ((with_reducible refine gate_callee (f := 29) rfl ?_); refine goesL_ (some 7) rfl rfl Try.func29 (by kernel_rfl) rfl #[] rfl (by (try simp only [List.map_toArray, List.map_cons, List.map_nil]); first | done | rfl | (simp only [List.length_drop, List.length_take]; rfl)) ?_; (with_reducible refine (incipitlaw6_begun.calls k  true _ A3.out).mono ?_); rintro e w21 ⟨rfl, hb⟩; refine ⟨_, rfl, ?_⟩; have n0_ := Aside0.mk (below_step (by repeat (first | (with_reducible first | exact HB.out | apply below_alloc | apply pw_below_drewN | apply below_drew1) | exact HB.out)) hb); clear HB; have HB := n0_; clear n0_; (try clear hb); (try clear hb2); (try clear hk); (try clear hi)) | ((with_reducible refine gate_callee (f := 20) rfl ?_); refine goesL_ (some 11) rfl rfl Try.func20 (by kernel_rfl) rfl #[.string a0, .int .i64 60] rfl (by (try simp only [List.map_toArray, List.map_cons, List.map_nil]); first | done | rfl | (simp only [List.length_drop, List.length_take]; rfl)) ?_; (with_reducible refine (incipitlaw1_Cut.calls a0 60 t477 _ A5.out).mono ?_); rintro e w' ⟨rfl, ⟨nd, rfl⟩⟩; refine ⟨_, rfl, ?_⟩) | ((with_reducible refine gate_callee (f := 20) rfl ?_); refine goesL_ (some 13) rfl rfl Try.func20 (by kernel_rfl) rfl #[.string a1, .int .i64 60] rfl (by (try simp only [List.map_toArray, List.map_cons, List.map_nil]); first | done | rfl | (simp only [List.length_drop, List.length_take]; rfl)) ?_; (with_reducible refine (incipitlaw1_Cut.calls a1 60 t478 _ A6.out).mono ?_); rintro e w' ⟨rfl, ⟨nd, rfl⟩⟩; refine ⟨_, rfl, ?_⟩) | ((with_reducible refine gate_callee (f := 36) rfl ?_); refine goesL_ (some 16) rfl rfl Try.func36 (by kernel_rfl) rfl #[.string t477, .string t478] rfl (by (try simp only [List.map_toArray, List.map_cons, List.map_nil]); first | done | rfl | (simp only [List.length_drop, List.length_take]; rfl)) ?_; (with_reducible refine (ckey_Between.calls k t477 t478 t479 _ A7.out).mono ?_); rintro e w22 ⟨rfl, hb⟩; refine ⟨_, rfl, ?_⟩; have n0_ := Aside0.mk (below_step (by repeat (first | (with_reducible first | exact HB.out | apply below_alloc | apply pw_below_drewN | apply below_drew1) | exact HB.out)) hb); clear HB; have HB := n0_; clear n0_; (try clear hb); (try clear hb2); (try clear hk); (try clear hi)) | ((with_reducible refine gate_callee (f := 37) rfl ?_); refine goesL_ (some 20) rfl rfl Try.func37 (by kernel_rfl) rfl #[.string t477, .string t478] rfl (by (try simp only [List.map_toArray, List.map_cons, List.map_nil]); first | done | rfl | (simp only [List.length_drop, List.length_take]; rfl)) ?_; (with_reducible refine (incipitref1_Between.calls k t477 t478 t480 _ A8.out).mono ?_); rintro e w23 ⟨rfl, hb⟩; refine ⟨_, rfl, ?_⟩; have n0_ := Aside0.mk (below_step (by repeat (first | (with_reducible first | exact HB.out | apply below_alloc | apply pw_below_drewN | apply below_drew1) | exact HB.out)) hb); clear HB; have HB := n0_; clear n0_; (try clear hb); (try clear hb2); (try clear hk); (try clear hi)))
             go_ret
             exact ⟨by first | rfl | (simp [errW_none, errW_some] <;> rfl) | (simp [*, errW_none, errW_some] <;> rfl) | (first | (simp (disch := omega) [w64_s, errW_none, errW_some]; done) | (simp (disch := omega) [w64_s, errW_none, errW_some] <;> rfl)), by repeat (first | (with_reducible first | exact HB.out | apply below_alloc | apply pw_below_drewN | apply below_drew1) | exact HB.out)⟩
   · rw [if_neg c9] at H
     exact absurd H (by simp)
 · replace c4 := Bool.eq_false_iff.mpr c4
   subst c4
   have H1 : (none) = some r := by rw [if_neg (show ¬ (false = true) by decide)] at H; exact H
   clear H
   have H := H1
   clear H1
   exact absurd H (by simp)

/-- THE ONE PURE STATEMENT of incipitlaw6_KeyBetween: yours. -/
def incipitlaw6_KeyBetween.Pure : Prop := ∀ (a0 : ByteArray) (a1 : ByteArray), a0.size ≤ 140737488351232 → a1.size ≤ 140737488351232 → ∃ k, incipitlaw6_KeyBetween.f k a0 a1 = some true
theorem incipitlaw6_KeyBetween.walk (P : incipitlaw6_KeyBetween.Pure) (a0 : ByteArray) (a1 : ByteArray) (w : World) (w0 : a0.size ≤ 140737488351232) (w1 : a1.size ≤ 140737488351232) :
 Calls Try.prog 12 #[.string a0, .string a1] w fun e w' => e = .returned (.bool true) ∧ Below w.heap.size w w' := by
 obtain ⟨k, h⟩ := P a0 a1 w0 w1
 refine (incipitlaw6_KeyBetween.calls k a0 a1 true w h).mono ?_
 rintro e w' ⟨rfl, hd⟩
 exact ⟨rfl, hd⟩

end Go.Proofs.Ytklggdenloenlaa.MNorm
