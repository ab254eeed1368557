-- written by mp.py, a program of this session's over the kit's printer
import Derived.Test.YtklggdenloenlaaV1
import Derived.Laws.Cover1
import Derived.Test.YtklggdenloenlaaMNormx0
import Derived.Test.YtklggdenloenlaaKCut
import Derived.Test.YtklggdenloenlaaK17a
import Derived.Test.YtklggdenloenlaaK17b
import Derived.Test.YtklggdenloenlaaK17r
import Derived.Test.YtklggdenloenlaaK18
namespace Go.Proofs.Ytklggdenloenlaa.MNorm
open Go.RowKit Go.Proofs.YtklggdenloenlaaW.PrintWords Go.Proofs.YtklggdenloenlaaW.PrintLast Go.Proofs.YtklggdenloenlaaW.PrintMore
attribute [local go_sem] max2_int min2_int max_two min_two max_three min_three max_four min_four   -- for this text's walks alone
set_option linter.unusedVariables false
set_option linter.unusedSimpArgs false

/-! ### incipitlaw6_KeyMake: function 10 -/
mutual
def incipitlaw6_KeyMake.j0 : Nat → ByteArray → Int → Bool → Option (Bool)
 | 0, _, _, _ => none
 | k + 1, x0, x1, x20 => if x20 = true then (if 0 ≤ x1 then (if (x1 : Int).toNat ≤ 281474976710656 then ((some (List.replicate (x1 : Int).toNat 0 : List Int)).bind fun y462 => (if x0.size + (strOfNums y462).size ≤ 9223372036854775807 then (incipitlaw6_KeyMake.j1 k (x0 ++ (strOfNums y462))) else (none))) else (none)) else (none)) else (incipitlaw6_KeyMake.j1 k x0)
def incipitlaw6_KeyMake.j1 : Nat → ByteArray → Option (Bool)
 | 0, _ => none
 | k + 1, x0 => (ckey_Make.f k x0).bind fun bt465 => ((incipitref1_Key.f k x0).bind fun bt469 => (if bt469.2 = true then (if bt465.2.2 = 0 then (if bt465.1.toList = bt469.1.toList then (if bt465.2.1.toList = x0.toList then ((ckey_Hash.f k bt469.1).bind fun t471 => ((incipitref1_Hash.f k bt469.1).bind fun t472 => (some (t471 == t472)))) else (none)) else (none)) else (none)) else (if bt465.2.2 = 1 then (if bt465.1.toList = ([] : List UInt8) then (some (bt465.2.1.toList == ([] : List UInt8))) else (none)) else (none))))
end
def incipitlaw6_KeyMake.f (k : Nat) (a0 : ByteArray) (a1 : Int) : Option (Bool) := (incipitlaw6_begun.f k).bind fun t460 => (if t460 = true then ((incipitlaw1_Cut.f a0 100).bind fun t461 => (if a1 > 0 then (incipitlaw6_KeyMake.j0 k t461 a1 (decide (a1 < 5000))) else (incipitlaw6_KeyMake.j0 k t461 a1 false))) else (none))
theorem incipitlaw6_KeyMake.mono_l : ∀ k, (∀ y0 y1 y2, LeO (incipitlaw6_KeyMake.j0 k y0 y1 y2) (incipitlaw6_KeyMake.j0 (k + 1) y0 y1 y2)) ∧ (∀ y0, LeO (incipitlaw6_KeyMake.j1 k y0) (incipitlaw6_KeyMake.j1 (k + 1) y0))
 | 0 => ⟨fun _ _ _ r h => by simp [incipitlaw6_KeyMake.j0] at h, fun _ r h => by simp [incipitlaw6_KeyMake.j1] at h⟩
 | k + 1 => by
  obtain ⟨ih0, ih1⟩ := incipitlaw6_KeyMake.mono_l k
  refine ⟨?_, ?_⟩
  · intro y0 y1 y2
    unfold incipitlaw6_KeyMake.j0
    repeat' first
    | (with_reducible exact ih0 _ _ _)
    | (with_reducible exact ih1 _)
    | (with_reducible exact ckey_Hash.mono _ _)
    | (with_reducible exact ckey_Make.mono _ _)
    | (with_reducible exact incipitlaw6_begun.mono _)
    | (with_reducible exact incipitref1_Hash.mono _ _)
    | (with_reducible exact incipitref1_Key.mono _ _)
    | (with_reducible exact LeO.refl _)
    | (with_reducible exact LeO.none _)
    | (with_reducible refine LeO.ite ?_ ?_)
    | (with_reducible refine LeO.bind ?_ (fun _ => ?_))
    | exact ih0 _ _ _
    | exact ih1 _
    | exact ckey_Hash.mono _ _
    | exact ckey_Make.mono _ _
    | exact incipitlaw6_begun.mono _
    | exact incipitref1_Hash.mono _ _
    | exact incipitref1_Key.mono _ _
    | exact LeO.none _
    | refine LeO.ite ?_ ?_
    | refine LeO.bind ?_ (fun _ => ?_)
  · intro y0
    unfold incipitlaw6_KeyMake.j1
    repeat' first
    | (with_reducible exact ih0 _ _ _)
    | (with_reducible exact ih1 _)
    | (with_reducible exact ckey_Hash.mono _ _)
    | (with_reducible exact ckey_Make.mono _ _)
    | (with_reducible exact incipitlaw6_begun.mono _)
    | (with_reducible exact incipitref1_Hash.mono _ _)
    | (with_reducible exact incipitref1_Key.mono _ _)
    | (with_reducible exact LeO.refl _)
    | (with_reducible exact LeO.none _)
    | (with_reducible refine LeO.ite ?_ ?_)
    | (with_reducible refine LeO.bind ?_ (fun _ => ?_))
    | exact ih0 _ _ _
    | exact ih1 _
    | exact ckey_Hash.mono _ _
    | exact ckey_Make.mono _ _
    | exact incipitlaw6_begun.mono _
    | exact incipitref1_Hash.mono _ _
    | exact incipitref1_Key.mono _ _
    | exact LeO.none _
    | refine LeO.ite ?_ ?_
    | refine LeO.bind ?_ (fun _ => ?_)
theorem incipitlaw6_KeyMake.mono : ∀ a0 a1 k, LeO (incipitlaw6_KeyMake.f k a0 a1) (incipitlaw6_KeyMake.f (k + 1) a0 a1) := by
 intro a0 a1 k
 obtain ⟨ih0, ih1⟩ := incipitlaw6_KeyMake.mono_l k
 unfold incipitlaw6_KeyMake.f
 repeat' first
  | (with_reducible exact ih0 _ _ _)
  | (with_reducible exact ih1 _)
  | (with_reducible exact ckey_Hash.mono _ _)
  | (with_reducible exact ckey_Make.mono _ _)
  | (with_reducible exact incipitlaw6_begun.mono _)
  | (with_reducible exact incipitref1_Hash.mono _ _)
  | (with_reducible exact incipitref1_Key.mono _ _)
  | (with_reducible exact LeO.refl _)
  | (with_reducible exact LeO.none _)
  | (with_reducible refine LeO.ite ?_ ?_)
  | (with_reducible refine LeO.bind ?_ (fun _ => ?_))
  | exact ih0 _ _ _
  | exact ih1 _
  | exact ckey_Hash.mono _ _
  | exact ckey_Make.mono _ _
  | exact incipitlaw6_begun.mono _
  | exact incipitref1_Hash.mono _ _
  | exact incipitref1_Key.mono _ _
  | exact LeO.none _
  | refine LeO.ite ?_ ?_
  | refine LeO.bind ?_ (fun _ => ?_)
set_option maxHeartbeats 8000000 in
set_option maxRecDepth 100000 in
theorem incipitlaw6_KeyMake.calls (k : Nat) (a0 : ByteArray) (a1 : Int) (r : Bool) (w : World) (h : incipitlaw6_KeyMake.f k a0 a1 = some r) :
 Calls Try.prog 10 #[.string a0, .int .i64 a1] w fun e w' => e = .returned (.bool r) ∧ Below w.heap.size w w' := by
 have hu42 := Try.underlying42
 have HB := Aside0.mk (Below.refl w.heap.size w)
 have H : ((incipitlaw6_begun.f k).bind fun t460 => (if t460 = true then ((incipitlaw1_Cut.f a0 100).bind fun t461 => (if a1 > 0 then (incipitlaw6_KeyMake.j0 k t461 a1 (decide (a1 < 5000))) else (incipitlaw6_KeyMake.j0 k t461 a1 false))) else (none))) = some r := h
 clear h
 replace H := Option.bind_eq_some_iff.mp H
 obtain ⟨t460, A30, H⟩ := H
 replace H : (if t460 = true then ((incipitlaw1_Cut.f a0 100).bind fun t461 => (if a1 > 0 then (incipitlaw6_KeyMake.j0 k t461 a1 (decide (a1 < 5000))) else (incipitlaw6_KeyMake.j0 k t461 a1 false))) else (none)) = some r := H
 have A3 := Aside0.mk A30
 clear A30
 by_cases c4 : t460 = true
 · subst c4
   have H1 : ((incipitlaw1_Cut.f a0 100).bind fun t461 => (if a1 > 0 then (incipitlaw6_KeyMake.j0 k t461 a1 (decide (a1 < 5000))) else (incipitlaw6_KeyMake.j0 k t461 a1 false))) = some r := by rw [if_pos rfl] at H; exact H
   clear H
   have H := H1
   clear H1
   replace H := Option.bind_eq_some_iff.mp H
   obtain ⟨t461, A50, H⟩ := H
   replace H : (if a1 > 0 then (incipitlaw6_KeyMake.j0 k t461 a1 (decide (a1 < 5000))) else (incipitlaw6_KeyMake.j0 k t461 a1 false)) = some r := H
   have A5 := Aside0.mk A50
   clear A50
   have HC6 := Aside0.mk H
   clear H
   go_enter Try.func10, Try.ntmps10
   go_upto_region 5 with (first | ((with_reducible refine gate_callee (f := 29) rfl ?_); refine goesL_ (some 10) rfl rfl Try.func29 (by kernel_rfl) rfl #[] rfl (by (try simp only [List.map_toArray, List.map_cons, List.map_nil]); first | done | rfl | (simp only [List.length_drop, List.length_take]; rfl)) ?_; (with_reducible refine (incipitlaw6_begun.calls k  true _ A3.out).mono ?_); rintro e w7 ⟨rfl, hb⟩; refine ⟨_, rfl, ?_⟩; have n0_ := Aside0.mk (below_step (by repeat (first | (with_reducible first | exact HB.out | apply below_alloc | apply pw_below_drewN | apply below_drew1) | exact HB.out)) hb); clear HB; have HB := n0_; clear n0_; (try clear hb); (try clear hb2); (try clear hk); (try clear hi)) | ((with_reducible refine gate_callee (f := 20) rfl ?_); refine goesL_ (some 14) rfl rfl Try.func20 (by kernel_rfl) rfl #[.string a0, .int .i64 100] rfl (by (try simp only [List.map_toArray, List.map_cons, List.map_nil]); first | done | rfl | (simp only [List.length_drop, List.length_take]; rfl)) ?_; (with_reducible refine (incipitlaw1_Cut.calls a0 100 t461 _ A5.out).mono ?_); rintro e w' ⟨rfl, ⟨nd, rfl⟩⟩; refine ⟨_, rfl, ?_⟩))
   (try simp only [Act.put, List.setIfInBounds_toArray, List.set_cons_zero, List.set_cons_succ])
   go_cut [20] (fun v20 wc => ∃ (kq : Nat) (x20_5 : Bool), v20 = .bool x20_5 ∧ Aside0 (incipitlaw6_KeyMake.j0 kq t461 a1 x20_5 = some r) ∧ Aside0 (kq ≤ k) ∧ Aside0 (Below w.heap.size w wc))
   case first =>
    have H := HC6.out
    clear HC6
    by_cases c8 : a1 > 0
    · rw [if_pos c8] at H
      have c8b0 : decide (0 < a1) = true := decide_eq_true c8
      clear c8
      (first | rw [c8b0] | (simp only [i64_w, i32_w]; rw [c8b0]) | skip)
      have H' := Aside0.mk H
      clear H
      go_wp2
      go_meet
      case rel => exact ⟨_, (decide (a1 < 5000)), (by first | rfl | (simp; done) | (simp [*]; done)), H', ⟨by first | omega | exact Nat.le_refl _⟩, ⟨by repeat (first | (with_reducible first | exact HB.out | apply below_alloc | apply pw_below_drewN | apply below_drew1) | exact HB.out)⟩⟩
    · rw [if_neg c8] at H
      have c8b0 : decide (0 < a1) = false := decide_eq_false c8
      clear c8
      (first | rw [c8b0] | (simp only [i64_w, i32_w]; rw [c8b0]) | skip)
      have H' := Aside0.mk H
      clear H
      go_wp2
      go_meet
      case rel => exact ⟨_, (false), (by first | rfl | (simp; done) | (simp [*]; done)), H', ⟨by first | omega | exact Nat.le_refl _⟩, ⟨by repeat (first | (with_reducible first | exact HB.out | apply below_alloc | apply pw_below_drewN | apply below_drew1) | exact HB.out)⟩⟩
   case rest =>
    clear HC6
    (try clear c1); (try clear c2); (try clear p2); (try clear c4); (try clear c8); (try clear c8b0)
    obtain ⟨kq, x20_5, rfl, HA, HJ5, HB⟩ := hcut
    cases kq with
    | zero => exact absurd HA.out (by simp [incipitlaw6_KeyMake.j0])
    | succ kj5 =>
     have H := HA.out
     clear HA
     simp only [incipitlaw6_KeyMake.j0] at H
     have HC9 := Aside0.mk H
     clear H
     go_upto_if 20 with (fail)
     go_cut [0] (fun v0 wc => ∃ (kq : Nat) (x0_8 : ByteArray), v0 = .string x0_8 ∧ Aside0 (incipitlaw6_KeyMake.j1 kq x0_8 = some r) ∧ Aside0 (kq ≤ kj5) ∧ Aside0 (Below w.heap.size w wc))
     case first =>
      have H := HC9.out
      clear HC9
      by_cases c10 : x20_5 = true
      · subst c10
        have H1 : (if 0 ≤ a1 then (if (a1 : Int).toNat ≤ 281474976710656 then ((some (List.replicate (a1 : Int).toNat 0 : List Int)).bind fun y462 => (if t461.size + (strOfNums y462).size ≤ 9223372036854775807 then (incipitlaw6_KeyMake.j1 kj5 (t461 ++ (strOfNums y462))) else (none))) else (none)) else (none)) = some r := by rw [if_pos rfl] at H; exact H
        clear H
        have H := H1
        clear H1
        by_cases c11 : 0 ≤ a1
        · rw [if_pos c11] at H
          have c11b0 := eq_true c11
          have c11b1 : decide (0 ≤ a1) = true := decide_eq_true c11
          clear c11
          by_cases c12 : (a1 : Int).toNat ≤ 281474976710656
          · rw [if_pos c12] at H
            have c12b0 := eq_true c12
            have c12b1 : decide ((a1 : Int).toNat ≤ 281474976710656) = true := decide_eq_true c12
            clear c12
            obtain ⟨y462, hy462⟩ : ∃ y_ : List Int, y_ = (List.replicate (a1 : Int).toNat 0) := ⟨_, rfl⟩
            replace H : (if t461.size + (strOfNums y462).size ≤ 9223372036854775807 then (incipitlaw6_KeyMake.j1 kj5 (t461 ++ (strOfNums y462))) else (none)) = some r := by first | (rw [hy462]; with_reducible exact H) | (have H2_ := (Option.bind_some _ _).symm.trans H; rw [hy462]; with_reducible exact H2_) | (have H2_ := (Option.bind_some _ _).symm.trans H; with_reducible exact H2_) | with_reducible exact H | (rw [hy462]; exact H) | exact H
            have Ny462 := Aside0.mk hy462
            clear hy462
            by_cases c13 : t461.size + (strOfNums y462).size ≤ 9223372036854775807
            · rw [if_pos c13] at H
              have c13b0 := eq_true c13
              have c13b1 : decide (t461.size + (strOfNums y462).size ≤ 9223372036854775807) = true := decide_eq_true c13
              try have c13b2 : (9223372036854775807 < t461.size + (strOfNums y462).size) = False := eq_false (Nat.not_lt.2 c13)
              have H' := Aside0.mk H
              clear H
              go_wp2_with (first | ((with_reducible refine gate_dst (N := 23) rfl ?_); refine Kd.R_make (Kd.int .u8) _ 5 rfl (N := 23) rfl 36 _ _ rfl a1 rfl rfl Try.underlying36 (.int .u8 0) 1 info5 rfl (by decide) (by omega) 0 (ok := fun _ => True) (okp := fun _ => True) rfl (fun _ hk => hk) trivial (of_decide_eq_true (by first | (with_reducible assumption) | assumption)) (Nat.le_trans (Nat.mul_le_mul_right _ (of_decide_eq_true (by first | (with_reducible assumption) | assumption) : a1.toNat ≤ 281474976710656)) (by omega)) (Below.refl _ _) (Nat.le_refl _) ?_; intro v463 w14 ho15 hb hg_ hnew_; clear hg_ hnew_; (first | rw [← Ny462.out] at ho15 | (simp only [Int.reduceToNat] at ho15; rw [← Ny462.out] at ho15)); have n0_ := Aside0.mk (Kd.R_lower ho15 (below_size (by repeat (first | (with_reducible first | exact HB.out | apply below_alloc | apply pw_below_drewN | apply below_drew1) | exact HB.out)))); have n1_ := Aside0.mk (below_step (by repeat (first | (with_reducible first | exact HB.out | apply below_alloc | apply pw_below_drewN | apply below_drew1) | exact HB.out)) hb); clear HB; have HO464 := n0_; have HB := n1_; clear n0_ n1_; clear hb ho15; have hcv16 := own_string (P := Try.prog) Try.underlying36 Try.underlying5 Try.underlying9 (Kd.own_of_R HO464.out)))
              go_meet
              case rel => exact ⟨_, (t461 ++ (strOfNums y462)), (by first | rfl | (simp; done) | (simp [*]; done)), H', ⟨by have := HJ5.out; first | omega | exact Nat.le_refl _⟩, ⟨by repeat (first | (with_reducible first | exact HB.out | apply below_alloc | apply pw_below_drewN | apply below_drew1) | exact HB.out)⟩⟩
            · rw [if_neg c13] at H
              exact absurd H (by simp)
          · rw [if_neg c12] at H
            exact absurd H (by simp)
        · rw [if_neg c11] at H
          exact absurd H (by simp)
      · replace c10 := Bool.eq_false_iff.mpr c10
        subst c10
        have H1 : (incipitlaw6_KeyMake.j1 kj5 t461) = some r := by rw [if_neg (show ¬ (false = true) by decide)] at H; exact H
        clear H
        have H := H1
        clear H1
        have H' := Aside0.mk H
        clear H
        go_wp2
        go_meet
        case rel => exact ⟨_, (t461), (by first | rfl | (simp; done) | (simp [*]; done)), H', ⟨by have := HJ5.out; first | omega | exact Nat.le_refl _⟩, ⟨by repeat (first | (with_reducible first | exact HB.out | apply below_alloc | apply pw_below_drewN | apply below_drew1) | exact HB.out)⟩⟩
     case rest =>
      clear HC9
      (try clear c1); (try clear hcv1); (try clear c2); (try clear p2); (try clear c4); (try clear c8); (try clear c8b0); (try clear c10); (try clear c11); (try clear c11b0); (try clear c11b1); (try clear c12); (try clear c12b0); (try clear c12b1); (try clear c13); (try clear c13b0); (try clear c13b1); (try clear c13b2); (try clear hcv16); (try clear p2)
      obtain ⟨kq, x0_8, rfl, HA, HJ8, HB⟩ := hcut
      cases kq with
      | zero => exact absurd HA.out (by simp [incipitlaw6_KeyMake.j1])
      | succ kj8 =>
       have H := HA.out
       clear HA
       simp only [incipitlaw6_KeyMake.j1] at H
       replace H := Option.bind_eq_some_iff.mp H
       obtain ⟨⟨t465, t466, t467⟩, A170, H⟩ := H
       replace H : ((incipitref1_Key.f kj8 x0_8).bind fun bt469 => (if bt469.2 = true then (if t467 = 0 then (if t465.toList = bt469.1.toList then (if t466.toList = x0_8.toList then ((ckey_Hash.f kj8 bt469.1).bind fun t471 => ((incipitref1_Hash.f kj8 bt469.1).bind fun t472 => (some (t471 == t472)))) else (none)) else (none)) else (none)) else (if t467 = 1 then (if t465.toList = ([] : List UInt8) then (some (t466.toList == ([] : List UInt8))) else (none)) else (none)))) = some r := H
       have A17 := Aside0.mk A170
       clear A170
       replace H := Option.bind_eq_some_iff.mp H
       obtain ⟨⟨t469, t470⟩, A180, H⟩ := H
       replace H : (if t470 = true then (if t467 = 0 then (if t465.toList = t469.toList then (if t466.toList = x0_8.toList then ((ckey_Hash.f kj8 t469).bind fun t471 => ((incipitref1_Hash.f kj8 t469).bind fun t472 => (some (t471 == t472)))) else (none)) else (none)) else (none)) else (if t467 = 1 then (if t465.toList = ([] : List UInt8) then (some (t466.toList == ([] : List UInt8))) else (none)) else (none))) = some r := H
       have A18 := Aside0.mk A180
       clear A180
       by_cases c19 : t470 = true
       · subst c19
         have H1 : (if t467 = 0 then (if t465.toList = t469.toList then (if t466.toList = x0_8.toList then ((ckey_Hash.f kj8 t469).bind fun t471 => ((incipitref1_Hash.f kj8 t469).bind fun t472 => (some (t471 == t472)))) else (none)) else (none)) else (none)) = some r := by rw [if_pos rfl] at H; exact H
         clear H
         have H := H1
         clear H1
         by_cases c20 : t467 = 0
         · rw [if_pos c20] at H
           have c20b0 : (t467 == 0) = true := beq_iff_eq.mpr c20
           have c20b1 : (t467 != 0) = false := bne_eq_false_iff_eq.mpr c20
           clear c20
           by_cases c21 : t465.toList = t469.toList
           · rw [if_pos c21] at H
             have c21b0 : (t465.toList == t469.toList) = true := beq_iff_eq.mpr c21
             have c21b1 : (t465.toList != t469.toList) = false := bne_eq_false_iff_eq.mpr c21
             clear c21
             by_cases c22 : t466.toList = x0_8.toList
             · rw [if_pos c22] at H
               have c22b0 : (t466.toList == x0_8.toList) = true := beq_iff_eq.mpr c22
               have c22b1 : (t466.toList != x0_8.toList) = false := bne_eq_false_iff_eq.mpr c22
               clear c22
               replace H := Option.bind_eq_some_iff.mp H
               obtain ⟨t471, A230, H⟩ := H
               replace H : ((incipitref1_Hash.f kj8 t469).bind fun t472 => (some (t471 == t472))) = some r := H
               have A23 := Aside0.mk A230
               clear A230
               replace H := Option.bind_eq_some_iff.mp H
               obtain ⟨t472, A240, H⟩ := H
               replace H : (some (t471 == t472)) = some r := H
               have A24 := Aside0.mk A240
               clear A240
               obtain rfl := Option.some.inj H
               go_wp2_with (first | ((with_reducible refine gate_callee (f := 30) rfl ?_); refine goesL_ (some 28) rfl rfl Try.func30 (by kernel_rfl) rfl #[.string x0_8] rfl (by (try simp only [List.map_toArray, List.map_cons, List.map_nil]); first | done | rfl | (simp only [List.length_drop, List.length_take]; rfl)) ?_; (with_reducible refine (ckey_Make.calls kj8 x0_8 t465 t466 t467 _ A17.out).mono ?_); rintro e w25 ⟨rfl, hb⟩; refine ⟨_, rfl, ?_⟩; have n0_ := Aside0.mk (below_step (by repeat (first | (with_reducible first | exact HB.out | apply below_alloc | apply pw_below_drewN | apply below_drew1) | exact HB.out)) hb); clear HB; have HB := n0_; clear n0_; (try clear hb); (try clear hb2); (try clear hk); (try clear hi)) | ((with_reducible refine gate_dst (N := 6) rfl ?_); refine box_event ?hg (N := 6) ?hd (cs := #[.string (⟨#[]⟩ : ByteArray), .string (⟨#[]⟩ : ByteArray)]) (t := 42) ?hr ?_; (case hd => rfl); (case hg => rfl); (case hr => first | (go_simp; done) | (go_simp; rfl)); intro gb468 hg w26 hbox hb; have n0_ := Aside0.mk (below_step (by repeat (first | (with_reducible first | exact HB.out | apply below_alloc | apply pw_below_drewN | apply below_drew1) | exact HB.out)) hb); have n1_ := Aside0.mk (hbox); have n2_ := Aside0.mk ((by rw [hg]; exact (below_size (by repeat (first | (with_reducible first | exact HB.out | apply below_alloc | apply pw_below_drewN | apply below_drew1) | exact HB.out))) : w.heap.size ≤ gb468)); have n3_ := Aside0.mk ((by rw [hg]; exact (below_size (by repeat (first | (with_reducible first | exact HB.out | apply below_alloc | apply pw_below_drewN | apply below_drew1) | exact HB.out))) : w.heap.size ≤ gb468)); clear HB; have HB := n0_; have BK468 := n1_; have GW468 := n2_; have GE468 := n3_; clear n0_ n1_ n2_ n3_; clear hb hbox hg; have hcz27_0 : w26.cell? ⟨gb468, 0, none⟩ = some (.string (⟨#[]⟩ : ByteArray)) := (blk_cell BK468.out 0).trans rfl; have hcz27_1 : w26.cell? ⟨gb468, 1, none⟩ = some (.string (⟨#[]⟩ : ByteArray)) := (blk_cell BK468.out 1).trans rfl; have hfz27_0 := blk_frozen BK468.out 0; have hfz27_1 := blk_frozen BK468.out 1) | ((with_reducible refine gate_callee (f := 31) rfl ?_); refine goesL_ (some 33) rfl rfl Try.func31 (by kernel_rfl) rfl #[.string x0_8] rfl (by (try simp only [List.map_toArray, List.map_cons, List.map_nil]); first | done | rfl | (simp only [List.length_drop, List.length_take]; rfl)) ?_; (with_reducible refine (incipitref1_Key.calls kj8 x0_8 t469 true _ A18.out).mono ?_); rintro e w28 ⟨rfl, hb⟩; refine ⟨_, rfl, ?_⟩; have n0_ := Aside0.mk (blk_below (g := gb468) (o := .cells #[.string t465, .string t466] 42 (0, 0)) (by (with_reducible repeat (first | refine blk_drewN ?_ _ | refine blk_drew ?_ | refine blk_alloc ?_ _)); refine blk_put (cs := #[.string t465, .string (⟨#[]⟩ : ByteArray)]) ?_ 1 _ rfl; (with_reducible repeat (first | refine blk_drewN ?_ _ | refine blk_drew ?_ | refine blk_alloc ?_ _)); refine blk_put (cs := #[.string (⟨#[]⟩ : ByteArray), .string (⟨#[]⟩ : ByteArray)]) ?_ 0 _ rfl; (with_reducible repeat (first | refine blk_drewN ?_ _ | refine blk_drew ?_ | refine blk_alloc ?_ _)); exact BK468.out) hb); have n1_ := Aside0.mk (below_step (by repeat (first | (with_reducible first | exact HB.out | apply below_alloc | apply pw_below_drewN | apply below_drew1 | refine below_set ?_ GE468.out) | exact HB.out)) hb); clear BK468; clear HB; have BK468 := n0_; have HB := n1_; clear n0_ n1_; (try clear hb); (try clear hb2); (try clear hk); (try clear hi); have hcz29_0 : w28.cell? ⟨gb468, 0, none⟩ = some (.string t465) := (blk_cell BK468.out 0).trans rfl; have hcz29_1 : w28.cell? ⟨gb468, 1, none⟩ = some (.string t466) := (blk_cell BK468.out 1).trans rfl; have hfz29_0 := blk_frozen BK468.out 0; have hfz29_1 := blk_frozen BK468.out 1) | (go_at_call 32; (with_reducible refine (ckey_Hash.calls kj8 t469 t471 _ A23.out).mono ?_); rintro e w' ⟨rfl, ⟨nd, rfl⟩⟩) | (go_at_call 33; (with_reducible refine (incipitref1_Hash.calls kj8 t469 t472 _ A24.out).mono ?_); rintro e w' ⟨rfl, ⟨nd, rfl⟩⟩))
               go_ret
               exact ⟨by first | rfl | (simp [errW_none, errW_some] <;> rfl) | (simp [*, errW_none, errW_some] <;> rfl) | (first | (simp (disch := omega) [w64_s, errW_none, errW_some]; done) | (simp (disch := omega) [w64_s, errW_none, errW_some] <;> rfl)), by repeat (first | (with_reducible first | exact HB.out | apply below_alloc | apply pw_below_drewN | apply below_drew1 | refine below_set ?_ GE468.out) | exact HB.out)⟩
             · rw [if_neg c22] at H
               exact absurd H (by simp)
           · rw [if_neg c21] at H
             exact absurd H (by simp)
         · rw [if_neg c20] at H
           exact absurd H (by simp)
       · replace c19 := Bool.eq_false_iff.mpr c19
         subst c19
         have H1 : (if t467 = 1 then (if t465.toList = ([] : List UInt8) then (some (t466.toList == ([] : List UInt8))) else (none)) else (none)) = some r := by rw [if_neg (show ¬ (false = true) by decide)] at H; exact H
         clear H
         have H := H1
         clear H1
         by_cases c30 : t467 = 1
         · rw [if_pos c30] at H
           have c30b0 : (t467 == 1) = true := beq_iff_eq.mpr c30
           have c30b1 : (t467 != 1) = false := bne_eq_false_iff_eq.mpr c30
           clear c30
           by_cases c31 : t465.toList = ([] : List UInt8)
           · rw [if_pos c31] at H
             have c31b0 : (t465.toList == ([] : List UInt8)) = true := beq_iff_eq.mpr c31
             have c31b1 : (t465.toList != ([] : List UInt8)) = false := bne_eq_false_iff_eq.mpr c31
             clear c31
             obtain rfl := Option.some.inj H
             go_wp2_with (first | ((with_reducible refine gate_callee (f := 30) rfl ?_); refine goesL_ (some 28) rfl rfl Try.func30 (by kernel_rfl) rfl #[.string x0_8] rfl (by (try simp only [List.map_toArray, List.map_cons, List.map_nil]); first | done | rfl | (simp only [List.length_drop, List.length_take]; rfl)) ?_; (with_reducible refine (ckey_Make.calls kj8 x0_8 t465 t466 t467 _ A17.out).mono ?_); rintro e w32 ⟨rfl, hb⟩; refine ⟨_, rfl, ?_⟩; have n0_ := Aside0.mk (below_step (by repeat (first | (with_reducible first | exact HB.out | apply below_alloc | apply pw_below_drewN | apply below_drew1) | exact HB.out)) hb); clear HB; have HB := n0_; clear n0_; (try clear hb); (try clear hb2); (try clear hk); (try clear hi)) | ((with_reducible refine gate_dst (N := 6) rfl ?_); refine box_event ?hg (N := 6) ?hd (cs := #[.string (⟨#[]⟩ : ByteArray), .string (⟨#[]⟩ : ByteArray)]) (t := 42) ?hr ?_; (case hd => rfl); (case hg => rfl); (case hr => first | (go_simp; done) | (go_simp; rfl)); intro gb468 hg w33 hbox hb; have n0_ := Aside0.mk (below_step (by repeat (first | (with_reducible first | exact HB.out | apply below_alloc | apply pw_below_drewN | apply below_drew1) | exact HB.out)) hb); have n1_ := Aside0.mk (hbox); have n2_ := Aside0.mk ((by rw [hg]; exact (below_size (by repeat (first | (with_reducible first | exact HB.out | apply below_alloc | apply pw_below_drewN | apply below_drew1) | exact HB.out))) : w.heap.size ≤ gb468)); have n3_ := Aside0.mk ((by rw [hg]; exact (below_size (by repeat (first | (with_reducible first | exact HB.out | apply below_alloc | apply pw_below_drewN | apply below_drew1) | exact HB.out))) : w.heap.size ≤ gb468)); clear HB; have HB := n0_; have BK468 := n1_; have GW468 := n2_; have GE468 := n3_; clear n0_ n1_ n2_ n3_; clear hb hbox hg; have hcz34_0 : w33.cell? ⟨gb468, 0, none⟩ = some (.string (⟨#[]⟩ : ByteArray)) := (blk_cell BK468.out 0).trans rfl; have hcz34_1 : w33.cell? ⟨gb468, 1, none⟩ = some (.string (⟨#[]⟩ : ByteArray)) := (blk_cell BK468.out 1).trans rfl; have hfz34_0 := blk_frozen BK468.out 0; have hfz34_1 := blk_frozen BK468.out 1) | ((with_reducible refine gate_callee (f := 31) rfl ?_); refine goesL_ (some 33) rfl rfl Try.func31 (by kernel_rfl) rfl #[.string x0_8] rfl (by (try simp only [List.map_toArray, List.map_cons, List.map_nil]); first | done | rfl | (simp only [List.length_drop, List.length_take]; rfl)) ?_; (with_reducible refine (incipitref1_Key.calls kj8 x0_8 t469 false _ A18.out).mono ?_); rintro e w35 ⟨rfl, hb⟩; refine ⟨_, rfl, ?_⟩; have n0_ := Aside0.mk (blk_below (g := gb468) (o := .cells #[.string t465, .string t466] 42 (0, 0)) (by (with_reducible repeat (first | refine blk_drewN ?_ _ | refine blk_drew ?_ | refine blk_alloc ?_ _)); refine blk_put (cs := #[.string t465, .string (⟨#[]⟩ : ByteArray)]) ?_ 1 _ rfl; (with_reducible repeat (first | refine blk_drewN ?_ _ | refine blk_drew ?_ | refine blk_alloc ?_ _)); refine blk_put (cs := #[.string (⟨#[]⟩ : ByteArray), .string (⟨#[]⟩ : ByteArray)]) ?_ 0 _ rfl; (with_reducible repeat (first | refine blk_drewN ?_ _ | refine blk_drew ?_ | refine blk_alloc ?_ _)); exact BK468.out) hb); have n1_ := Aside0.mk (below_step (by repeat (first | (with_reducible first | exact HB.out | apply below_alloc | apply pw_below_drewN | apply below_drew1 | refine below_set ?_ GE468.out) | exact HB.out)) hb); clear BK468; clear HB; have BK468 := n0_; have HB := n1_; clear n0_ n1_; (try clear hb); (try clear hb2); (try clear hk); (try clear hi); have hcz36_0 : w35.cell? ⟨gb468, 0, none⟩ = some (.string t465) := (blk_cell BK468.out 0).trans rfl; have hcz36_1 : w35.cell? ⟨gb468, 1, none⟩ = some (.string t466) := (blk_cell BK468.out 1).trans rfl; have hfz36_0 := blk_frozen BK468.out 0; have hfz36_1 := blk_frozen BK468.out 1))
             go_ret
             exact ⟨by first | rfl | (simp [errW_none, errW_some] <;> rfl) | (simp [*, errW_none, errW_some] <;> rfl) | (first | (simp (disch := omega) [w64_s, errW_none, errW_some]; done) | (simp (disch := omega) [w64_s, errW_none, errW_some] <;> rfl)), by repeat (first | (with_reducible first | exact HB.out | apply below_alloc | apply pw_below_drewN | apply below_drew1 | refine below_set ?_ GE468.out) | exact HB.out)⟩
           · rw [if_neg c31] at H
             exact absurd H (by simp)
         · rw [if_neg c30] at H
           exact absurd H (by simp)
 · replace c4 := Bool.eq_false_iff.mpr c4
   subst c4
   have H1 : (none) = some r := by rw [if_neg (show ¬ (false = true) by decide)] at H; exact H
   clear H
   have H := H1
   clear H1
   exact absurd H (by simp)

/-- THE ONE PURE STATEMENT of incipitlaw6_KeyMake: yours. -/
def incipitlaw6_KeyMake.Pure : Prop := ∀ (a0 : ByteArray) (a1 : Int), a0.size ≤ 140737488351232 → (Lit.int .i64 a1).wf = true → ∃ k, incipitlaw6_KeyMake.f k a0 a1 = some true
theorem incipitlaw6_KeyMake.walk (P : incipitlaw6_KeyMake.Pure) (a0 : ByteArray) (a1 : Int) (w : World) (w0 : a0.size ≤ 140737488351232) (w1 : (Lit.int .i64 a1).wf = true) :
 Calls Try.prog 10 #[.string a0, .int .i64 a1] w fun e w' => e = .returned (.bool true) ∧ Below w.heap.size w w' := by
 obtain ⟨k, h⟩ := P a0 a1 w0 w1
 refine (incipitlaw6_KeyMake.calls k a0 a1 true w h).mono ?_
 rintro e w' ⟨rfl, hd⟩
 exact ⟨rfl, hd⟩

end Go.Proofs.Ytklggdenloenlaa.MNorm
