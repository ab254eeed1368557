-- written by mp.py, a program of this session's over the kit's printer
import Derived.Test.YtiplbhjllkfemaaZMStx0
import Derived.Test.YtiplbhjllkfemaaZMStx5
import Derived.Test.YtiplbhjllkfemaaZMStx6
import Derived.Test.YtiplbhjllkfemaaZMStx8
namespace Go.Proofs.Ytiplbhjllkfemaa.MSt
open Go.RowKit Go.Proofs.YtiplbhjllkfemaaW.PrintWords Go.Proofs.YtiplbhjllkfemaaW.PrintLast Go.Proofs.YtiplbhjllkfemaaW.PrintMore
attribute [local go_sem] max2_int min2_int max_two min_two max_three min_three max_four min_four   -- for this text's walks alone
set_option linter.unusedVariables false
set_option linter.unusedSimpArgs false

/-! ### slices_stableCmpFunc_norm_mark: function 82 -/
mutual
def slices_stableCmpFunc_norm_mark.l0 : Nat → List (S94) → Int → Int → Int → Int → Option ((List (S94)))
 | 0, _, _, _, _, _ => none
 | k + 1, x0, x1, x6, x7, x8 => if x8 ≤ x1 then ((slices_insertionSortCmpFunc_norm_mark.f k x0 x7 x8).bind fun t249 => (slices_stableCmpFunc_norm_mark.l0 k t249 x1 x6 x8 (wrap64 (x8 + x6)))) else ((slices_insertionSortCmpFunc_norm_mark.f k x0 x7 x1).bind fun t250 => (slices_stableCmpFunc_norm_mark.l1 k t250 x1 x6))
def slices_stableCmpFunc_norm_mark.l1 : Nat → List (S94) → Int → Int → Option ((List (S94)))
 | 0, _, _, _ => none
 | k + 1, x0, x1, x6 => if x6 < x1 then (slices_stableCmpFunc_norm_mark.l2 k x0 x1 x6 0 (wrap64 (2 * x6))) else (some x0)
def slices_stableCmpFunc_norm_mark.l2 : Nat → List (S94) → Int → Int → Int → Int → Option ((List (S94)))
 | 0, _, _, _, _, _ => none
 | k + 1, x0, x1, x6, x7, x8 => if x8 ≤ x1 then ((slices_symMergeCmpFunc_norm_mark.f k x0 x7 (wrap64 (x7 + x6)) x8).bind fun t251 => (slices_stableCmpFunc_norm_mark.l2 k t251 x1 x6 x8 (wrap64 (x8 + (wrap64 (2 * x6)))))) else (if (wrap64 (x7 + x6)) < x1 then ((slices_symMergeCmpFunc_norm_mark.f k x0 x7 (wrap64 (x7 + x6)) x1).bind fun t252 => (slices_stableCmpFunc_norm_mark.l1 k t252 x1 (wrap64 (x6 * 2)))) else (slices_stableCmpFunc_norm_mark.l1 k x0 x1 (wrap64 (x6 * 2))))
end
def slices_stableCmpFunc_norm_mark.f (k : Nat) (l0 : List (S94)) (a1 : Int)  : Option ((List (S94))) := slices_stableCmpFunc_norm_mark.l0 k l0 a1 20 0 20
theorem slices_stableCmpFunc_norm_mark.mono_l : ∀ k, (∀ y0 y1 y2 y3 y4, LeO (slices_stableCmpFunc_norm_mark.l0 k y0 y1 y2 y3 y4) (slices_stableCmpFunc_norm_mark.l0 (k + 1) y0 y1 y2 y3 y4)) ∧ (∀ y0 y1 y2, LeO (slices_stableCmpFunc_norm_mark.l1 k y0 y1 y2) (slices_stableCmpFunc_norm_mark.l1 (k + 1) y0 y1 y2)) ∧ (∀ y0 y1 y2 y3 y4, LeO (slices_stableCmpFunc_norm_mark.l2 k y0 y1 y2 y3 y4) (slices_stableCmpFunc_norm_mark.l2 (k + 1) y0 y1 y2 y3 y4))
 | 0 => ⟨fun _ _ _ _ _ r h => by simp [slices_stableCmpFunc_norm_mark.l0] at h, fun _ _ _ r h => by simp [slices_stableCmpFunc_norm_mark.l1] at h, fun _ _ _ _ _ r h => by simp [slices_stableCmpFunc_norm_mark.l2] at h⟩
 | k + 1 => by
  obtain ⟨ih0, ih1, ih2⟩ := slices_stableCmpFunc_norm_mark.mono_l k
  refine ⟨?_, ?_, ?_⟩
  · intro y0 y1 y2 y3 y4
    unfold slices_stableCmpFunc_norm_mark.l0
    repeat' first
    | (with_reducible exact ih0 _ _ _ _ _)
    | (with_reducible exact ih1 _ _ _)
    | (with_reducible exact ih2 _ _ _ _ _)
    | (with_reducible exact slices_insertionSortCmpFunc_norm_mark.mono _ _ _ _)
    | (with_reducible exact slices_symMergeCmpFunc_norm_mark.mono _ _ _ _ _)
    | (with_reducible exact LeO.refl _)
    | (with_reducible exact LeO.none _)
    | (with_reducible refine LeO.ite ?_ ?_)
    | (with_reducible refine LeO.bind ?_ (fun _ => ?_))
    | exact ih0 _ _ _ _ _
    | exact ih1 _ _ _
    | exact ih2 _ _ _ _ _
    | exact slices_insertionSortCmpFunc_norm_mark.mono _ _ _ _
    | exact slices_symMergeCmpFunc_norm_mark.mono _ _ _ _ _
    | exact LeO.none _
    | refine LeO.ite ?_ ?_
    | refine LeO.bind ?_ (fun _ => ?_)
  · intro y0 y1 y2
    unfold slices_stableCmpFunc_norm_mark.l1
    repeat' first
    | (with_reducible exact ih0 _ _ _ _ _)
    | (with_reducible exact ih1 _ _ _)
    | (with_reducible exact ih2 _ _ _ _ _)
    | (with_reducible exact slices_insertionSortCmpFunc_norm_mark.mono _ _ _ _)
    | (with_reducible exact slices_symMergeCmpFunc_norm_mark.mono _ _ _ _ _)
    | (with_reducible exact LeO.refl _)
    | (with_reducible exact LeO.none _)
    | (with_reducible refine LeO.ite ?_ ?_)
    | (with_reducible refine LeO.bind ?_ (fun _ => ?_))
    | exact ih0 _ _ _ _ _
    | exact ih1 _ _ _
    | exact ih2 _ _ _ _ _
    | exact slices_insertionSortCmpFunc_norm_mark.mono _ _ _ _
    | exact slices_symMergeCmpFunc_norm_mark.mono _ _ _ _ _
    | exact LeO.none _
    | refine LeO.ite ?_ ?_
    | refine LeO.bind ?_ (fun _ => ?_)
  · intro y0 y1 y2 y3 y4
    unfold slices_stableCmpFunc_norm_mark.l2
    repeat' first
    | (with_reducible exact ih0 _ _ _ _ _)
    | (with_reducible exact ih1 _ _ _)
    | (with_reducible exact ih2 _ _ _ _ _)
    | (with_reducible exact slices_insertionSortCmpFunc_norm_mark.mono _ _ _ _)
    | (with_reducible exact slices_symMergeCmpFunc_norm_mark.mono _ _ _ _ _)
    | (with_reducible exact LeO.refl _)
    | (with_reducible exact LeO.none _)
    | (with_reducible refine LeO.ite ?_ ?_)
    | (with_reducible refine LeO.bind ?_ (fun _ => ?_))
    | exact ih0 _ _ _ _ _
    | exact ih1 _ _ _
    | exact ih2 _ _ _ _ _
    | exact slices_insertionSortCmpFunc_norm_mark.mono _ _ _ _
    | exact slices_symMergeCmpFunc_norm_mark.mono _ _ _ _ _
    | exact LeO.none _
    | refine LeO.ite ?_ ?_
    | refine LeO.bind ?_ (fun _ => ?_)
theorem slices_stableCmpFunc_norm_mark.mono : ∀ a0 a1 k, LeO (slices_stableCmpFunc_norm_mark.f k a0 a1) (slices_stableCmpFunc_norm_mark.f (k + 1) a0 a1) := by
 intro a0 a1 k
 obtain ⟨ih0, ih1, ih2⟩ := slices_stableCmpFunc_norm_mark.mono_l k
 unfold slices_stableCmpFunc_norm_mark.f
 repeat' first
  | (with_reducible exact ih0 _ _ _ _ _)
  | (with_reducible exact ih1 _ _ _)
  | (with_reducible exact ih2 _ _ _ _ _)
  | (with_reducible exact slices_insertionSortCmpFunc_norm_mark.mono _ _ _ _)
  | (with_reducible exact slices_symMergeCmpFunc_norm_mark.mono _ _ _ _ _)
  | (with_reducible exact LeO.refl _)
  | (with_reducible exact LeO.none _)
  | (with_reducible refine LeO.ite ?_ ?_)
  | (with_reducible refine LeO.bind ?_ (fun _ => ?_))
  | exact ih0 _ _ _ _ _
  | exact ih1 _ _ _
  | exact ih2 _ _ _ _ _
  | exact slices_insertionSortCmpFunc_norm_mark.mono _ _ _ _
  | exact slices_symMergeCmpFunc_norm_mark.mono _ _ _ _ _
  | exact LeO.none _
  | refine LeO.ite ?_ ?_
  | refine LeO.bind ?_ (fun _ => ?_)
set_option maxHeartbeats 8000000 in
set_option maxRecDepth 100000 in
theorem slices_stableCmpFunc_norm_mark.calls (k : Nat) (P0_ : Nat → Prop) (u9000_ : Value) (l0 : List (S94)) (a1 : Int)  (r : List (S94)) (w0 w : World) (hB : Below w0.heap.size w0 w) (ho0 : Kd.R k94 94 w w0.heap.size P0_ u9000_ l0) (h : slices_stableCmpFunc_norm_mark.f k l0 a1 = some r) :
 Calls Try.prog 82 #[u9000_, .int .i64 a1, .func (.func 75) #[] #[]] w fun e w' => e = .returned (.tuple #[]) ∧ Kd.R k94 94 w' w0.heap.size (fun k_ => (P0_ k_ ∨ w.heap.size ≤ k_)) u9000_ r ∧ Below w0.heap.size w0 w' ∧ Kept w w' (fun k_ => P0_ k_) := by
 have HO0 := Aside0.mk (show Kd.R k94 94 w w0.heap.size (fun k_ => (P0_ k_ ∨ w.heap.size ≤ k_)) u9000_ l0 from Kd.R_mono ho0 (fun k_ hk => (.inl hk)))
 have HK := Aside0.mk (Kept.refl w (fun k_ => P0_ k_))
 have HW0 := Aside0.mk hB.size
 have HB := Aside0.mk hB
 clear hB
 have H : (slices_stableCmpFunc_norm_mark.l0 k l0 a1 20 0 20) = some r := h
 clear h
 have H' := Aside0.mk H
 clear H
 go_enter Try.func82, Try.ntmps82
 go_wp2
 try simp only [Act.put, List.setIfInBounds_toArray, List.set_cons_succ, List.set_cons_zero]
 go_loopg [7, 8] k (fun kq v7 v8 w' => ∃ (x0_1 : List (S94)) (x7_1 : Int) (x8_1 : Int), v7 = .int .i64 x7_1 ∧ v8 = .int .i64 x8_1 ∧ Aside0 (slices_stableCmpFunc_norm_mark.l0 kq x0_1 a1 20 x7_1 x8_1 = some r) ∧ Aside0 (kq ≤ k) ∧ Aside0 (Kd.R k94 94 w' w0.heap.size (fun k_ => (P0_ k_ ∨ w.heap.size ≤ k_)) u9000_ x0_1) ∧ Aside0 (Kept w w' (fun k_ => P0_ k_)) ∧ Aside0 (Below w0.heap.size w0 w'))
 case atStart => exact ⟨(l0), (0), (20), (by first | rfl | (simp; done) | (simp [*]; done)), (by first | rfl | (simp; done) | (simp [*]; done)), H', ⟨Nat.le_refl _⟩, ⟨by (with_reducible repeat (first | apply Kd.R_alloc | apply Kd.R_drewN | apply Kd.R_drew)); exact HO0.out⟩, ⟨by repeat (first | (with_reducible first | exact HK.out | apply Kept.alloc | apply Kept.drewN | apply Kept.drew) | exact HK.out)⟩, ⟨by repeat (first | (with_reducible first | exact HB.out | apply below_alloc | apply pw_below_drewN | apply below_drew1) | exact HB.out)⟩⟩
 case round =>
  clear H'
  try clear p2
  obtain ⟨x0_1, x7_1, x8_1, rfl, rfl, HA, HK1, HO_0, HK, HB⟩ := hrel
  cases gk with
  | zero => exact absurd HA.out (by simp [slices_stableCmpFunc_norm_mark.l0])
  | succ k1 =>
   have H := HA.out
   clear HA
   simp only [slices_stableCmpFunc_norm_mark.l0] at H
   by_cases c4 : x8_1 ≤ a1
   · rw [if_pos c4] at H
     have c4b0 : decide (x8_1 ≤ a1) = true := decide_eq_true c4
     clear c4
     replace H := Option.bind_eq_some_iff.mp H
     obtain ⟨t249, A50, H⟩ := H
     replace H : (slices_stableCmpFunc_norm_mark.l0 k1 t249 a1 20 x8_1 (wrap64 (x8_1 + 20))) = some r := H
     have A5 := Aside0.mk A50
     clear A50
     have H' := Aside0.mk H
     clear H
     obtain ⟨Ao6, co6, eo6⟩ := Kd.R_slice HO_0.out
     subst eo6
     go_wp2_with (first | ((with_reducible refine gate_callee (f := 83) rfl ?_); refine goesL_ (some 18) rfl rfl Try.func83 (by kernel_rfl) rfl #[.slice Ao6 x0_1.length co6, .int .i64 x7_1, .int .i64 x8_1, .func (.func 75) #[] #[]] rfl (by (try simp only [List.map_toArray, List.map_cons, List.map_nil]); first | done | rfl | (simp only [List.length_drop, List.length_take]; rfl)) ?_; (with_reducible refine (slices_insertionSortCmpFunc_norm_mark.calls k1 (fun k_ => some k_ = (.slice Ao6 x0_1.length co6 : Value).ownBlock) (.slice Ao6 x0_1.length co6) x0_1 x7_1 x8_1  t249 w0 _ ?side1 ?side2 A5.out).mono ?_); (case side1 => repeat (first | (with_reducible first | exact HB.out | apply below_alloc | apply pw_below_drewN | apply below_drew1) | exact HB.out)); (case side2 => exact Kd.R_tight rfl HO_0.out); rintro e w7 ⟨rfl, hy0, hb, hkp⟩; refine ⟨_, rfl, ?_⟩; have n0_ := Aside0.mk (Kd.R_reok rfl hy0 (fun k_ e_ => HO_0.out.1 k_ e_)); have n1_ := Aside0.mk (Kept.then_ (S := (fun k_ => P0_ k_)) (by repeat (first | (with_reducible first | exact HK.out | apply Kept.alloc | apply Kept.drewN | apply Kept.drew) | exact HK.out)) hkp (fun k_ hs_ => (fun e_ => (HO_0.out.1 k_ e_.symm)) hs_)); have n2_ := Aside0.mk (hb); clear HO_0; clear HK; clear HB; have HO_0 := n0_; have HK := n1_; have HB := n2_; clear n0_ n1_ n2_; (try clear hb); (try clear hkp); (try clear hy0)))
     go_roundg k1
     case measure => have := HK1.out; omega
     case rel => exact ⟨(t249), (x8_1), (wrap64 (x8_1 + 20)), (by first | rfl | (simp; done) | (simp [*]; done)), (by first | rfl | (simp; done) | (simp [*]; done)), H', ⟨by have := HK1.out; omega⟩, ⟨by (with_reducible repeat (first | apply Kd.R_alloc | apply Kd.R_drewN | apply Kd.R_drew)); exact HO_0.out⟩, ⟨by repeat (first | (with_reducible first | exact HK.out | apply Kept.alloc | apply Kept.drewN | apply Kept.drew) | exact HK.out)⟩, ⟨by repeat (first | (with_reducible first | exact HB.out | apply below_alloc | apply pw_below_drewN | apply below_drew1) | exact HB.out)⟩⟩
   · rw [if_neg c4] at H
     have c4b0 : decide (x8_1 ≤ a1) = false := decide_eq_false c4
     clear c4
     replace H := Option.bind_eq_some_iff.mp H
     obtain ⟨t250, A80, H⟩ := H
     replace H : (slices_stableCmpFunc_norm_mark.l1 k1 t250 a1 20) = some r := H
     have A8 := Aside0.mk A80
     clear A80
     have H' := Aside0.mk H
     clear H
     obtain ⟨Ao9, co9, eo9⟩ := Kd.R_slice HO_0.out
     subst eo9
     go_wp2_with (first | ((with_reducible refine gate_callee (f := 83) rfl ?_); refine goesL_ (some 27) rfl rfl Try.func83 (by kernel_rfl) rfl #[.slice Ao9 x0_1.length co9, .int .i64 x7_1, .int .i64 a1, .func (.func 75) #[] #[]] rfl (by (try simp only [List.map_toArray, List.map_cons, List.map_nil]); first | done | rfl | (simp only [List.length_drop, List.length_take]; rfl)) ?_; (with_reducible refine (slices_insertionSortCmpFunc_norm_mark.calls k1 (fun k_ => some k_ = (.slice Ao9 x0_1.length co9 : Value).ownBlock) (.slice Ao9 x0_1.length co9) x0_1 x7_1 a1  t250 w0 _ ?side1 ?side2 A8.out).mono ?_); (case side1 => repeat (first | (with_reducible first | exact HB.out | apply below_alloc | apply pw_below_drewN | apply below_drew1) | exact HB.out)); (case side2 => exact Kd.R_tight rfl HO_0.out); rintro e w10 ⟨rfl, hy0, hb, hkp⟩; refine ⟨_, rfl, ?_⟩; have n0_ := Aside0.mk (Kd.R_reok rfl hy0 (fun k_ e_ => HO_0.out.1 k_ e_)); have n1_ := Aside0.mk (Kept.then_ (S := (fun k_ => P0_ k_)) (by repeat (first | (with_reducible first | exact HK.out | apply Kept.alloc | apply Kept.drewN | apply Kept.drew) | exact HK.out)) hkp (fun k_ hs_ => (fun e_ => (HO_0.out.1 k_ e_.symm)) hs_)); have n2_ := Aside0.mk (hb); clear HO_0; clear HK; clear HB; have HO_0 := n0_; have HK := n1_; have HB := n2_; clear n0_ n1_ n2_; (try clear hb); (try clear hkp); (try clear hy0)))
     try simp only [Act.put, List.setIfInBounds_toArray, List.set_cons_succ, List.set_cons_zero]
     go_loopg [6] k1 (fun kq v6 w' => ∃ (x0_2 : List (S94)) (x6_2 : Int), v6 = .int .i64 x6_2 ∧ Aside0 (slices_stableCmpFunc_norm_mark.l1 kq x0_2 a1 x6_2 = some r) ∧ Aside0 (kq ≤ k1) ∧ Aside0 (Kd.R k94 94 w' w0.heap.size (fun k_ => (P0_ k_ ∨ w.heap.size ≤ k_)) (.slice Ao9 x0_1.length co9) x0_2) ∧ Aside0 (Kept w w' (fun k_ => P0_ k_)) ∧ Aside0 (Below w0.heap.size w0 w'))
     case atStart => exact ⟨(t250), (20), (by first | rfl | (simp; done) | (simp [*]; done)), H', ⟨Nat.le_refl _⟩, ⟨by (with_reducible repeat (first | apply Kd.R_alloc | apply Kd.R_drewN | apply Kd.R_drew)); exact HO_0.out⟩, ⟨by repeat (first | (with_reducible first | exact HK.out | apply Kept.alloc | apply Kept.drewN | apply Kept.drew) | exact HK.out)⟩, ⟨by repeat (first | (with_reducible first | exact HB.out | apply below_alloc | apply pw_below_drewN | apply below_drew1) | exact HB.out)⟩⟩
     case round =>
      clear H'
      (try clear p2); (try clear c4); (try clear c4b0); (try clear p6); (try clear c8); (try clear p2)
      obtain ⟨x0_2, x6_2, rfl, HA, HK2, HO_0, HK, HB⟩ := hrel
      have hl0_2 := (Kd.R_reads' HO_0.out).1
      rw [hl0_2] at HO_0
      (try simp only [hl0_2])
      cases gk with
      | zero => exact absurd HA.out (by simp [slices_stableCmpFunc_norm_mark.l1])
      | succ k2 =>
       have H := HA.out
       clear HA
       simp only [slices_stableCmpFunc_norm_mark.l1] at H
       by_cases c11 : x6_2 < a1
       · rw [if_pos c11] at H
         have c11b0 : decide (x6_2 < a1) = true := decide_eq_true c11
         clear c11
         have H' := Aside0.mk H
         clear H
         go_wp2
         try simp only [Act.put, List.setIfInBounds_toArray, List.set_cons_succ, List.set_cons_zero]
         go_loopg [7, 8] k2 (fun kq v7 v8 w' => ∃ (x0_3 : List (S94)) (x7_3 : Int) (x8_3 : Int), v7 = .int .i64 x7_3 ∧ v8 = .int .i64 x8_3 ∧ Aside0 (slices_stableCmpFunc_norm_mark.l2 kq x0_3 a1 x6_2 x7_3 x8_3 = some r) ∧ Aside0 (kq ≤ k2) ∧ Aside0 (Kd.R k94 94 w' w0.heap.size (fun k_ => (P0_ k_ ∨ w.heap.size ≤ k_)) (.slice Ao9 x0_2.length co9) x0_3) ∧ Aside0 (Kept w w' (fun k_ => P0_ k_)) ∧ Aside0 (Below w0.heap.size w0 w'))
         case atStart => exact ⟨(x0_2), (0), (wrap64 (2 * x6_2)), (by first | rfl | (simp; done) | (simp [*]; done)), (by first | rfl | (simp; done) | (simp [*]; done)), H', ⟨Nat.le_refl _⟩, ⟨by (try simp only [hl0_2]); (with_reducible repeat (first | apply Kd.R_alloc | apply Kd.R_drewN | apply Kd.R_drew)); exact HO_0.out⟩, ⟨by repeat (first | (with_reducible first | exact HK.out | apply Kept.alloc | apply Kept.drewN | apply Kept.drew) | exact HK.out)⟩, ⟨by repeat (first | (with_reducible first | exact HB.out | apply below_alloc | apply pw_below_drewN | apply below_drew1) | exact HB.out)⟩⟩
         case round =>
          clear H'
          (try clear c1); (try clear p2); (try clear c4); (try clear c4b0); (try clear p6); (try clear c8); (try clear c11); (try clear c11b0); (try clear p2); (try clear p6)
          obtain ⟨x0_3, x7_3, x8_3, rfl, rfl, HA, HK3, HO_0, HK, HB⟩ := hrel
          have hl0_3 := (Kd.R_reads' HO_0.out).1
          rw [hl0_3] at HO_0
          (try simp only [hl0_3])
          cases gk with
          | zero => exact absurd HA.out (by simp [slices_stableCmpFunc_norm_mark.l2])
          | succ k3 =>
           have H := HA.out
           clear HA
           simp only [slices_stableCmpFunc_norm_mark.l2] at H
           by_cases c12 : x8_3 ≤ a1
           · rw [if_pos c12] at H
             have c12b0 : decide (x8_3 ≤ a1) = true := decide_eq_true c12
             clear c12
             replace H := Option.bind_eq_some_iff.mp H
             obtain ⟨t251, A130, H⟩ := H
             replace H : (slices_stableCmpFunc_norm_mark.l2 k3 t251 a1 x6_2 x8_3 (wrap64 (x8_3 + (wrap64 (2 * x6_2))))) = some r := H
             have A13 := Aside0.mk A130
             clear A130
             have H' := Aside0.mk H
             clear H
             go_wp2_with (first | ((with_reducible refine gate_callee (f := 84) rfl ?_); refine goesL_ (some 43) rfl rfl Try.func84 (by kernel_rfl) rfl #[.slice Ao9 x0_3.length co9, .int .i64 x7_3, .int .i64 (wrap64 (x7_3 + x6_2)), .int .i64 x8_3, .func (.func 75) #[] #[]] rfl (by (try simp only [List.map_toArray, List.map_cons, List.map_nil]); first | done | rfl | (simp only [List.length_drop, List.length_take]; rfl)) ?_; (with_reducible refine (slices_symMergeCmpFunc_norm_mark.calls k3 (fun k_ => some k_ = (.slice Ao9 x0_3.length co9 : Value).ownBlock) (.slice Ao9 x0_3.length co9) x0_3 x7_3 (wrap64 (x7_3 + x6_2)) x8_3  t251 w0 _ ?side1 ?side2 A13.out).mono ?_); (case side1 => repeat (first | (with_reducible first | exact HB.out | apply below_alloc | apply pw_below_drewN | apply below_drew1) | exact HB.out)); (case side2 => exact Kd.R_tight rfl HO_0.out); rintro e w14 ⟨rfl, hy0, hb, hkp⟩; refine ⟨_, rfl, ?_⟩; have n0_ := Aside0.mk (Kd.R_reok rfl hy0 (fun k_ e_ => HO_0.out.1 k_ e_)); have n1_ := Aside0.mk (Kept.then_ (S := (fun k_ => P0_ k_)) (by repeat (first | (with_reducible first | exact HK.out | apply Kept.alloc | apply Kept.drewN | apply Kept.drew) | exact HK.out)) hkp (fun k_ hs_ => (fun e_ => (HO_0.out.1 k_ e_.symm)) hs_)); have n2_ := Aside0.mk (hb); clear HO_0; clear HK; clear HB; have HO_0 := n0_; have HK := n1_; have HB := n2_; clear n0_ n1_ n2_; (try clear hb); (try clear hkp); (try clear hy0)))
             (try simp only [← hl0_3])
             go_roundg k3
             case measure => have := HK1.out; have := HK2.out; have := HK3.out; omega
             case rel => exact ⟨(t251), (x8_3), (wrap64 (x8_3 + (wrap64 (2 * x6_2)))), (by first | rfl | (simp; done) | (simp [*]; done)), (by first | rfl | (simp; done) | (simp [*]; done)), H', ⟨by have := HK1.out; have := HK2.out; have := HK3.out; omega⟩, ⟨by (try simp only [hl0_2]); (try simp only [hl0_3]); (with_reducible repeat (first | apply Kd.R_alloc | apply Kd.R_drewN | apply Kd.R_drew)); exact HO_0.out⟩, ⟨by repeat (first | (with_reducible first | exact HK.out | apply Kept.alloc | apply Kept.drewN | apply Kept.drew) | exact HK.out)⟩, ⟨by repeat (first | (with_reducible first | exact HB.out | apply below_alloc | apply pw_below_drewN | apply below_drew1) | exact HB.out)⟩⟩
           · rw [if_neg c12] at H
             have c12b0 : decide (x8_3 ≤ a1) = false := decide_eq_false c12
             clear c12
             by_cases c15 : (wrap64 (x7_3 + x6_2)) < a1
             · rw [if_pos c15] at H
               have c15b0 : decide ((wrap64 (x7_3 + x6_2)) < a1) = true := decide_eq_true c15
               clear c15
               replace H := Option.bind_eq_some_iff.mp H
               obtain ⟨t252, A160, H⟩ := H
               replace H : (slices_stableCmpFunc_norm_mark.l1 k3 t252 a1 (wrap64 (x6_2 * 2))) = some r := H
               have A16 := Aside0.mk A160
               clear A160
               have H' := Aside0.mk H
               clear H
               go_wp2_with (first | ((with_reducible refine gate_callee (f := 84) rfl ?_); refine goesL_ (some 60) rfl rfl Try.func84 (by kernel_rfl) rfl #[.slice Ao9 x0_3.length co9, .int .i64 x7_3, .int .i64 (wrap64 (x7_3 + x6_2)), .int .i64 a1, .func (.func 75) #[] #[]] rfl (by (try simp only [List.map_toArray, List.map_cons, List.map_nil]); first | done | rfl | (simp only [List.length_drop, List.length_take]; rfl)) ?_; (with_reducible refine (slices_symMergeCmpFunc_norm_mark.calls k3 (fun k_ => some k_ = (.slice Ao9 x0_3.length co9 : Value).ownBlock) (.slice Ao9 x0_3.length co9) x0_3 x7_3 (wrap64 (x7_3 + x6_2)) a1  t252 w0 _ ?side1 ?side2 A16.out).mono ?_); (case side1 => repeat (first | (with_reducible first | exact HB.out | apply below_alloc | apply pw_below_drewN | apply below_drew1) | exact HB.out)); (case side2 => exact Kd.R_tight rfl HO_0.out); rintro e w17 ⟨rfl, hy0, hb, hkp⟩; refine ⟨_, rfl, ?_⟩; have n0_ := Aside0.mk (Kd.R_reok rfl hy0 (fun k_ e_ => HO_0.out.1 k_ e_)); have n1_ := Aside0.mk (Kept.then_ (S := (fun k_ => P0_ k_)) (by repeat (first | (with_reducible first | exact HK.out | apply Kept.alloc | apply Kept.drewN | apply Kept.drew) | exact HK.out)) hkp (fun k_ hs_ => (fun e_ => (HO_0.out.1 k_ e_.symm)) hs_)); have n2_ := Aside0.mk (hb); clear HO_0; clear HK; clear HB; have HO_0 := n0_; have HK := n1_; have HB := n2_; clear n0_ n1_ n2_; (try clear hb); (try clear hkp); (try clear hy0)))
               (try simp only [← hl0_2, ← hl0_3])
               go_roundg k3
               case measure => have := HK1.out; have := HK2.out; have := HK3.out; omega
               case rel => exact ⟨(t252), (wrap64 (x6_2 * 2)), (by first | rfl | (simp; done) | (simp [*]; done)), H', ⟨by have := HK1.out; have := HK2.out; have := HK3.out; omega⟩, ⟨by (try simp only [hl0_2]); (try simp only [hl0_3]); (with_reducible repeat (first | apply Kd.R_alloc | apply Kd.R_drewN | apply Kd.R_drew)); exact HO_0.out⟩, ⟨by repeat (first | (with_reducible first | exact HK.out | apply Kept.alloc | apply Kept.drewN | apply Kept.drew) | exact HK.out)⟩, ⟨by repeat (first | (with_reducible first | exact HB.out | apply below_alloc | apply pw_below_drewN | apply below_drew1) | exact HB.out)⟩⟩
             · rw [if_neg c15] at H
               have c15b0 : decide ((wrap64 (x7_3 + x6_2)) < a1) = false := decide_eq_false c15
               clear c15
               have H' := Aside0.mk H
               clear H
               go_wp2
               (try simp only [← hl0_2, ← hl0_3])
               go_roundg k3
               case measure => have := HK1.out; have := HK2.out; have := HK3.out; omega
               case rel => exact ⟨(x0_3), (wrap64 (x6_2 * 2)), (by first | rfl | (simp; done) | (simp [*]; done)), H', ⟨by have := HK1.out; have := HK2.out; have := HK3.out; omega⟩, ⟨by (try simp only [hl0_2]); (try simp only [hl0_3]); (with_reducible repeat (first | apply Kd.R_alloc | apply Kd.R_drewN | apply Kd.R_drew)); exact HO_0.out⟩, ⟨by repeat (first | (with_reducible first | exact HK.out | apply Kept.alloc | apply Kept.drewN | apply Kept.drew) | exact HK.out)⟩, ⟨by repeat (first | (with_reducible first | exact HB.out | apply below_alloc | apply pw_below_drewN | apply below_drew1) | exact HB.out)⟩⟩
       · rw [if_neg c11] at H
         have c11b0 : decide (x6_2 < a1) = false := decide_eq_false c11
         clear c11
         obtain rfl := Option.some.inj H
         go_wp2
         first | go_end0 | ((try simp only [Exit.inBlock, Exit.then]); refine bodyPost_ret (results_none rfl _ _ _) rfl ?_)
         exact ⟨by first | rfl | (simp [errW_none, errW_some] <;> rfl) | (simp [*, errW_none, errW_some] <;> rfl), (by first | exact (by (with_reducible repeat (first | apply Kd.R_alloc | apply Kd.R_drewN | apply Kd.R_drew)); exact HO_0.out) | (simp only [hl0_2]; exact (by (with_reducible repeat (first | apply Kd.R_alloc | apply Kd.R_drewN | apply Kd.R_drew)); exact HO_0.out))), by repeat (first | (with_reducible first | exact HB.out | apply below_alloc | apply pw_below_drewN | apply below_drew1) | exact HB.out), by repeat (first | (with_reducible first | exact HK.out | apply Kept.alloc | apply Kept.drewN | apply Kept.drew) | exact HK.out)⟩

/-! ### slices_SortStableFunc_norm_mark: function 74 -/
def slices_SortStableFunc_norm_mark.f (k : Nat) (l0 : List (S94))  : Option ((List (S94))) := (slices_stableCmpFunc_norm_mark.f k l0 (l0.length : Int)).bind fun t253 => (some t253)
theorem slices_SortStableFunc_norm_mark.mono : ∀ a0 k, LeO (slices_SortStableFunc_norm_mark.f k a0) (slices_SortStableFunc_norm_mark.f (k + 1) a0) := by
 intro a0 k
 unfold slices_SortStableFunc_norm_mark.f
 repeat' first
  | (with_reducible exact slices_stableCmpFunc_norm_mark.mono _ _ _)
  | (with_reducible exact LeO.refl _)
  | (with_reducible exact LeO.none _)
  | (with_reducible refine LeO.ite ?_ ?_)
  | (with_reducible refine LeO.bind ?_ (fun _ => ?_))
  | exact slices_stableCmpFunc_norm_mark.mono _ _ _
  | exact LeO.none _
  | refine LeO.ite ?_ ?_
  | refine LeO.bind ?_ (fun _ => ?_)
set_option maxHeartbeats 8000000 in
set_option maxRecDepth 100000 in
theorem slices_SortStableFunc_norm_mark.calls (k : Nat) (P0_ : Nat → Prop) (u9000_ : Value) (l0 : List (S94))  (r : List (S94)) (w0 w : World) (hB : Below w0.heap.size w0 w) (ho0 : Kd.R k94 94 w w0.heap.size P0_ u9000_ l0) (h : slices_SortStableFunc_norm_mark.f k l0 = some r) :
 Calls Try.prog 74 #[u9000_, .func (.func 75) #[] #[]] w fun e w' => e = .returned (.tuple #[]) ∧ Kd.R k94 94 w' w0.heap.size (fun k_ => (P0_ k_ ∨ w.heap.size ≤ k_)) u9000_ r ∧ Below w0.heap.size w0 w' ∧ Kept w w' (fun k_ => P0_ k_) := by
 have HO0 := Aside0.mk (show Kd.R k94 94 w w0.heap.size (fun k_ => (P0_ k_ ∨ w.heap.size ≤ k_)) u9000_ l0 from Kd.R_mono ho0 (fun k_ hk => (.inl hk)))
 have HK := Aside0.mk (Kept.refl w (fun k_ => P0_ k_))
 have HW0 := Aside0.mk hB.size
 have HB := Aside0.mk hB
 clear hB
 have H : ((slices_stableCmpFunc_norm_mark.f k l0 (l0.length : Int)).bind fun t253 => (some t253)) = some r := h
 clear h
 replace H := Option.bind_eq_some_iff.mp H
 obtain ⟨t253, A30, H⟩ := H
 replace H : (some t253) = some r := H
 have A3 := Aside0.mk A30
 clear A30
 obtain rfl := Option.some.inj H
 obtain ⟨Ao4, co4, eo4⟩ := Kd.R_slice HO0.out
 subst eo4
 go_enter Try.func74, Try.ntmps74
 go_wp2_with (first | ((with_reducible refine gate_callee (f := 82) rfl ?_); refine goesL_ (some 8) rfl rfl Try.func82 (by kernel_rfl) rfl #[.slice Ao4 l0.length co4, .int .i64 (l0.length : Int), .func (.func 75) #[] #[]] rfl (by (try simp only [List.map_toArray, List.map_cons, List.map_nil]); first | done | rfl | (simp only [List.length_drop, List.length_take]; rfl)) ?_; (with_reducible refine (slices_stableCmpFunc_norm_mark.calls k (fun k_ => some k_ = (.slice Ao4 l0.length co4 : Value).ownBlock) (.slice Ao4 l0.length co4) l0 (l0.length : Int)  t253 w0 _ ?side1 ?side2 A3.out).mono ?_); (case side1 => repeat (first | (with_reducible first | exact HB.out | apply below_alloc | apply pw_below_drewN | apply below_drew1) | exact HB.out)); (case side2 => exact Kd.R_tight rfl HO0.out); rintro e w5 ⟨rfl, hy0, hb, hkp⟩; refine ⟨_, rfl, ?_⟩; have n0_ := Aside0.mk (Kd.R_reok rfl hy0 (fun k_ e_ => HO0.out.1 k_ e_)); have n1_ := Aside0.mk (Kept.then_ (S := (fun k_ => P0_ k_)) (by repeat (first | (with_reducible first | exact HK.out | apply Kept.alloc | apply Kept.drewN | apply Kept.drew) | exact HK.out)) hkp (fun k_ hs_ => (fun e_ => (HO0.out.1 k_ e_.symm)) hs_)); have n2_ := Aside0.mk (hb); clear HO0; clear HK; clear HB; have HO0 := n0_; have HK := n1_; have HB := n2_; clear n0_ n1_ n2_; (try clear hb); (try clear hkp); (try clear hy0)))
 first | go_end0 | ((try simp only [Exit.inBlock, Exit.then]); refine bodyPost_ret (results_none rfl _ _ _) rfl ?_)
 exact ⟨by first | rfl | (simp [errW_none, errW_some] <;> rfl) | (simp [*, errW_none, errW_some] <;> rfl), by (with_reducible repeat (first | apply Kd.R_alloc | apply Kd.R_drewN | apply Kd.R_drew)); exact HO0.out, by repeat (first | (with_reducible first | exact HB.out | apply below_alloc | apply pw_below_drewN | apply below_drew1) | exact HB.out), by repeat (first | (with_reducible first | exact HK.out | apply Kept.alloc | apply Kept.drewN | apply Kept.drew) | exact HK.out)⟩

/-! ### norm_Order_1: function 73 -/
def norm_Order_1.f (k : Nat) (run : List S94) (out : List Int) : Option (List Int) :=
 (slices_SortStableFunc_norm_mark.f k run).bind fun s => if out.length + s.length < 17592186044416 then some (out ++ s.map (·.f0)) else none
theorem ord_info_int : (Try.prog.info? 3).map (fun i => (i.zero, i.size, i.bytes)) = some (some (.int .i64 0), 1, 8) := by kernel_rfl

/-- The two variables that the closure holds, and their rows. -/
structure OrdInv (w0 : World) (gr go : Nat) (vr : Value) (run : List S94) (out : List Int) (w : World) : Prop where
 below : Below w0.heap.size w0 w
 br : w.heap[gr]? = some (.cells #[vr] 91 (0, 0))
 rr : Kd.R k94 94 w w0.heap.size (fun _ => True) vr run
 bo : ∃ vo, w.heap[go]? = some (.cells #[vo] 27 (0, 0)) ∧ Kd.R (Kd.int .i64) 3 w w0.heap.size (fun _ => True) vo out

theorem OrdInv.drewN {w0 : World} {gr go : Nat} {vr : Value} {run : List S94} {out : List Int} {w : World} (h : OrdInv w0 gr go vr run out w) (n : Nat) : OrdInv w0 gr go vr run out (w.drewN n) :=
 ⟨pw_below_drewN h.below n, h.br, Kd.R_drewN h.rr n, h.bo.imp fun _ hx => ⟨hx.1, Kd.R_drewN hx.2 n⟩⟩

set_option maxHeartbeats 8000000 in
set_option maxRecDepth 100000 in
theorem norm_Order_1.calls (k : Nat) (gr go : Nat) (vr : Value) (run : List S94) (out : List Int) (r : List Int) (w0 w : World) (hgr : w0.heap.size ≤ gr) (hgo : w0.heap.size ≤ go)
 (hI : OrdInv w0 gr go vr run out w) (h : norm_Order_1.f k run out = some r) :
 Calls Try.prog 73 #[.pointer (some ⟨gr, 0, none⟩), .pointer (some ⟨go, 0, none⟩)] w fun e w' => e = .returned (.tuple #[]) ∧ OrdInv w0 gr go (.slice none 0 0) [] r w' := by
 obtain ⟨hb, hbr, hrr, vo, hbo, hro⟩ := hI
 unfold norm_Order_1.f at h
 obtain ⟨s, hs, h⟩ := Option.bind_eq_some_iff.1 h
 by_cases hlim : out.length + s.length < 17592186044416
 · rw [if_pos hlim] at h
   obtain rfl := Option.some.inj h
   clear h
   have hne : gr ≠ go := fun e => by subst e; rw [hbr] at hbo; injection hbo with hbo; injection hbo with _ h2; exact absurd h2 (by decide)
   have cr := cell_of_one hbr
   have HLIM := Aside0.mk hlim
   have HS := Aside0.mk hs
   have HB := Aside0.mk hb
   have HBR := Aside0.mk hbr
   have HBO := Aside0.mk hbo
   have HRR := Aside0.mk hrr
   have HRO := Aside0.mk hro
   have HNE := Aside0.mk hne
   have HGR := Aside0.mk hgr
   have HGO := Aside0.mk hgo
   clear hlim hs hb hbr hbo hrr hro hne hgr hgo
   go_enter Try.func73, Try.ntmps73
   go_wp2_with (
    go_at_call 74
    refine (slices_SortStableFunc_norm_mark.calls k (fun k_ => some k_ = vr.ownBlock) vr run s w0 _ HB.out (Kd.R_tight rfl HRR.out) HS.out).mono ?_
    rintro e w1 ⟨rfl, hy, hb1, hk1⟩
    have hbr1 := blk_kept HBR.out hk1 (Kd.R_ne HRR.out HBR.out (by decide))
    have hbo1 := blk_kept HBO.out hk1 (Kd.R_ne HRR.out HBO.out (by decide))
    have HRO1 := Aside0.mk (Kd.R_kept (Kd.R_apart' HRO.out (Kd.R_typed HRR.out) (by decide)) hk1 (fun k_ hk_ => hk_.2))
    obtain ⟨A1, c1, e1, hc1, hC1⟩ := Kd.R_reads hy
    have hlen : s.length ≤ 9223372036854775807 := Kd.C_max hC1
    have cr1 := cell_of_one hbr1
    subst e1
    have HB1 := Aside0.mk hb1
    have HBR1 := Aside0.mk hbr1
    have HBO1 := Aside0.mk hbo1
    have HY := Aside0.mk hy
    clear hk1 hb1 hbr1 hbo1 hy hC1 hc1 HB HBR HBO HRR HRO cr h)
   go_loopw [8] (fun i wr => ∃ j : Nat, j ≤ s.length ∧ i = .int .i64 j ∧ Aside0 (OrdInv w0 gr go (.slice A1 s.length c1) s (out ++ (s.take j).map (·.f0)) wr)) (fun i _ => s.length - (intOf i).toNat)
   case atStart => exact ⟨0, Nat.zero_le _, rfl, ⟨⟨HB1.out, HBR1.out, Kd.R_mono HY.out (fun _ _ => trivial), vo, HBO1.out, by simpa using (Kd.R_mono HRO1.out (fun _ _ => trivial))⟩⟩⟩
   case round =>
    obtain ⟨j, hj, rfl, hI⟩ := hrel
    obtain ⟨hb2, hbr2, hrr2, vo2, hbo2, hro2⟩ := hI.out
    clear hI
    have HB2 := Aside0.mk hb2
    have HBR2 := Aside0.mk hbr2
    have HRR2 := Aside0.mk hrr2
    have HBO2 := Aside0.mk hbo2
    have HRO2 := Aside0.mk hro2
    clear hb2 hbr2 hrr2 hbo2 hro2
    by_cases hlt : j < s.length
    · obtain ⟨ad, ea, hx0, hx1⟩ := at_T94 (Kd.R_reads' HRR2.out).2.2 (j : Int) (by omega) (by omega)
      cases ea
      simp only [Int.toNat_natCast] at hx0 hx1
      obtain ⟨x, hx⟩ : ∃ x, rd_T94 s (j : Int) = x := ⟨_, rfl⟩
      rw [hx] at hx0 hx1
      have HX := Aside0.mk hx
      clear hx
      have co2 := cell_of_one HBO2.out
      have fo2 := free_of_one HBO2.out
      have lo2 := blk_lt HBO2.out
      clear HB1 HBR1 HBO1 HY HRO1 cr1
      have hxs : out ++ (s.take (j + 1)).map (·.f0) = (out ++ (s.take j).map (·.f0)) ++ [x.f0] := by
       have e : rd_T94 s (j : Int) = s[j] := by
        unfold rd_T94
        rw [Int.toNat_natCast, List.getD_eq_getElem?_getD, List.getElem?_eq_getElem hlt, Option.getD_some]
       rw [List.take_succ_eq_append_getElem hlt, List.map_append, ← List.append_assoc, ← HX.out, e]
       rfl
      have HXS := Aside0.mk hxs
      clear hxs
      have HLJ := Aside0.mk (show (out ++ (s.take j).map (·.f0)).length + 1 < 17592186044416 by have := HLIM.out; rw [List.length_append, List.length_map, List.length_take]; omega)
      generalize hys : out ++ (s.take j).map (·.f0) = ys at HRO2 HXS HLJ
      clear hys
      go_wp2_with (
       at_builtin
       refine Kd.R_append (Kd.int .i64) (w0 := w0) w0.heap.size rfl (.tmp 12) (.tmp 15) 27 3 (.int .i64 0) 8 rfl Try.underlying27 ord_info_int rfl (by decide) (by omega) vo2 ys x.f0 [.int .i64 x.f0] (fun _ => True) (fun _ => False) rfl (by first | (go_simp; done) | (go_simp; rfl)) ?aP (fun _ hk => hk.elim) (fun _ _ => trivial) ?aO ?aB ?aS ?aL ?_
       (case aP => exact rfl)
       (case aO => exact Kd.R_alloc HRO2.out _)
       (case aB => exact HB2.out.alloc HB2.out.size _)
       (case aS => have := HB2.out.size; simp; omega)
       (case aL => have := HLJ.out; omega)
       intro v3 w3 ho hb hg hat
       obtain ⟨A3, c3, e3⟩ := Kd.R_slice ho
       rw [List.length_append, List.length_singleton] at e3
       subst e3
       have hbo3 := blk_grown (blk_alloc HBO2.out _) hg (Kd.R_ne HRO2.out HBO2.out (by decide))
       have hbr3 := blk_grown (blk_alloc HBR2.out _) hg (Kd.R_ne HRO2.out HBR2.out (by decide))
       have HRR3 := Aside0.mk (Kd.R_over' (Kd.R_alloc HRR2.out _) (Kd.R_typed (Kd.R_alloc HRO2.out _)) (by decide) hg)
       have co3 := cell_of_one hbo3
       have fo3 := free_of_one hbo3
       have HBO3 := Aside0.mk hbo3
       have HBR3 := Aside0.mk hbr3
       have HRO3 := Aside0.mk ho
       have HB3 := Aside0.mk hb
       clear hbo3 hbr3 ho hb hg hat co2 fo2 hx0 hx1)
      go_roundw
      case rel =>
       refine ⟨j + 1, by omega, by go_num, ⟨⟨HB3.out.setCell HGO.out _, ?_, Kd.R_set HRR3.out HBO3.out (by decide) 0 _, _, one_setCell HBO3.out, ?_⟩⟩⟩
       · rw [Below.heap_setCell _ _ _ _ HNE.out]; exact HBR3.out
       · rw [HXS.out]; exact Kd.R_set HRO3.out HBO3.out (by decide) 0 _
      case measure => simp [intOf]; omega
    · have e : j = s.length := by omega
      subst e
      have cr2 := cell_of_one HBR2.out
      have fr2 := free_of_one HBR2.out
      clear HB1 HBR1 HBO1 HY HRO1 cr1
      go_wp2
      go_end0
      refine ⟨rfl, ⟨HB2.out.setCell HGR.out _, one_setCell HBR2.out, Kd.R_nil _ _ _ _ _, vo2, ?_, ?_⟩⟩
      · rw [Below.heap_setCell _ _ _ _ (Ne.symm HNE.out)]; exact HBO2.out
      · have := HRO2.out
        rw [List.take_of_length_le (Nat.le_refl _)] at this
        exact Kd.R_set this HBR2.out (by decide) 0 _
 · rw [if_neg hlim] at h; cases h

/-! ### norm_Order: function 52 -/
def norm_Order.go (k : Nat) : List Int → List S94 → List Int → Option (List Int)
  | [], run, out => norm_Order_1.f k run out
  | c :: cs, run, out => (ucd_Class.f k c).bind fun cl => if cl > 0 then (if run.length < 8796093022208 then norm_Order.go k cs (run ++ [⟨c, cl⟩]) out else none) else (norm_Order_1.f k run out).bind fun out' => if out'.length < 17592186044416 then norm_Order.go k cs [] (out' ++ [c]) else none
def norm_Order.f (k : Nat) (l0 : List Int) : Option (List Int) := norm_Order.go k l0 [] []
theorem norm_Order_1.mono : ∀ a0 a1 k, LeO (norm_Order_1.f k a0 a1) (norm_Order_1.f (k + 1) a0 a1) := fun a0 _ k => LeO.bind (slices_SortStableFunc_norm_mark.mono a0 k) (fun _ => LeO.refl _)
theorem norm_Order.mono_go : ∀ (l : List Int) (run : List S94) (out : List Int) k, LeO (norm_Order.go k l run out) (norm_Order.go (k + 1) l run out)
  | [], run, out, k => norm_Order_1.mono run out k
  | c :: cs, run, out, k => by
    unfold norm_Order.go
    refine LeO.bind (ucd_Class.mono c k) (fun cl => LeO.ite (LeO.ite (norm_Order.mono_go cs _ _ k) (LeO.refl _)) (LeO.bind (norm_Order_1.mono run out k) (fun _ => LeO.ite (norm_Order.mono_go cs _ _ k) (LeO.refl _))))
theorem norm_Order.mono : ∀ a0 k, LeO (norm_Order.f k a0) (norm_Order.f (k + 1) a0) := fun a0 k => norm_Order.mono_go a0 [] [] k

theorem ord_info_mark : (Try.prog.info? 94).map (fun i => (i.zero, i.size, i.bytes)) = some (some (.agg #[.int .i64 0, .int .i64 0]), 2, 16) := by kernel_rfl

set_option maxHeartbeats 8000000 in
set_option maxRecDepth 100000 in
theorem norm_Order.calls (k : Nat) (A0 : Option Addr) (c0 : Nat) (l0 : List Int) (r : List Int) (w : World) (hr0 : Kd.C (Kd.int .i64) w A0 l0.length l0) (hc0 : l0.length ≤ c0) (h : norm_Order.f k l0 = some r) :
    Calls Try.prog 52 #[.slice A0 l0.length c0] w fun e w' => ∃ v0_ : Value, e = .returned (v0_) ∧ Kd.R (Kd.int .i64) 3 w' w.heap.size (fun _ => True) v0_ r ∧ Below w.heap.size w w' := by
  have hlen : l0.length ≤ 9223372036854775807 := Kd.C_max hr0
  have HR0 := Aside0.mk hr0
  have HC0 := Aside0.mk hc0
  have H := Aside0.mk h
  clear hr0 hc0 h
  have hu94 := Try.underlying94
  go_enter Try.func52, Try.ntmps52
  go_wp2
  have hstart : OrdInv w (w.heap.size + 1) w.heap.size (.slice none 0 0) [] [] ((w.alloc (.cells #[.slice none 0 0] 27)).alloc (.cells #[.slice none 0 0] 91)) := by
    have h1 : (w.alloc (.cells #[.slice none 0 0] 27)).heap.size = w.heap.size + 1 := by simp
    refine ⟨below_alloc (below_alloc (Below.refl _ _) _) _, ?_, Kd.R_nil _ _ _ _ _, _, ?_, Kd.R_nil _ _ _ _ _⟩
    · have := heap_alloc_new (w.alloc (.cells #[.slice none 0 0] 27)) (.cells #[.slice none 0 0] 91)
      rwa [h1] at this
    · exact blk_alloc (heap_alloc_new _ _) _
  have HS := Aside0.mk hstart
  clear hstart
  go_loopw [12] (fun i wr => ∃ j : Nat, j ≤ l0.length ∧ i = .int .i64 j ∧ Aside0 (∃ vr run out, norm_Order.go k (l0.drop j) run out = some r ∧ OrdInv w (w.heap.size + 1) w.heap.size vr run out wr)) (fun i _ => l0.length - (intOf i).toNat)
  case atStart => exact ⟨0, Nat.zero_le _, rfl, ⟨_, [], [], H.out, HS.out⟩⟩
  case round =>
    clear H HS
    obtain ⟨j, hj, rfl, hJ⟩ := hrel
    obtain ⟨vr, run, out, hgo, hI⟩ := hJ.out
    clear hJ
    by_cases hlt : j < l0.length
    · have hd : l0.drop j = l0[j] :: l0.drop (j + 1) := List.drop_eq_getElem_cons hlt
      rw [hd] at hgo
      unfold norm_Order.go at hgo
      obtain ⟨cl, hcl, hgo⟩ := Option.bind_eq_some_iff.1 hgo
      obtain ⟨hb2, hbr2, hrr2, vo2, hbo2, hro2⟩ := hI
      obtain ⟨ad, cc, ea, hcc, hK, hcell⟩ := Kd.C_get (Kd.C_below HR0.out (hb2.mono (Nat.le_refl _))) 0 (j : Int) (by omega) (by omega)
      cases ea
      have hx : wr.cell? (ad.add j) = some (.int .i64 l0[j]) := by
        have e : l0.getD (j : Int).toNat 0 = l0[j] := by rw [Int.toNat_natCast, List.getD_eq_getElem?_getD, List.getElem?_eq_getElem hlt, Option.getD_some]
        rw [e] at hK
        have e2 : cc = [.int .i64 l0[j]] := hK
        have := hcell 0 (.int .i64 l0[j]) (by rw [e2]; rfl)
        simpa [Kd.int, Kd.scalar] using this
      generalize l0[j] = c at hx hcl hgo
      have HB2 := Aside0.mk hb2
      have HBR2 := Aside0.mk hbr2
      have HRR2 := Aside0.mk hrr2
      have HBO2 := Aside0.mk hbo2
      have HRO2 := Aside0.mk hro2
      have HCL := Aside0.mk hcl
      obtain ⟨Ar, cr, er⟩ := Kd.R_slice hrr2
      subst er
      have cr2 := cell_of_one hbr2
      have fr2 := free_of_one hbr2
      have co2 := cell_of_one hbo2
      have fo2 := free_of_one hbo2
      clear hb2 hbr2 hrr2 hbo2 hro2 hcl hcell hK hd hcc
      by_cases hpos : cl > 0
      · rw [if_pos hpos] at hgo
        by_cases hlim : run.length < 8796093022208
        · rw [if_pos hlim] at hgo
          have HGO := Aside0.mk hgo
          have HLIM := Aside0.mk hlim
          have hpos' : decide (0 < cl) = true := decide_eq_true hpos
          clear hgo hlim hpos
          go_wp2_with (first
            | (go_at_call 51
               refine (ucd_Class.calls k c cl _ HCL.out).mono ?_
               rintro e w' ⟨rfl, ⟨nd, rfl⟩⟩)
            | (at_builtin
               refine Kd.R_append k94 (w0 := w) w.heap.size rfl (.tmp 20) (.tmp 24) 91 94 (.agg #[.int .i64 0, .int .i64 0]) 16 rfl Try.underlying91 ord_info_mark rfl (by decide) (by omega) (.slice Ar run.length cr) run (⟨c, cl⟩ : S94) [.int .i64 c, .int .i64 cl] (fun _ => True) (fun _ => False) rfl (by first | (go_simp; done) | (go_simp; rfl)) ?aP (fun _ hk => hk.elim) (fun _ _ => trivial) ?aO ?aB ?aS ?aL ?_
               (case aP => exact k94_mkM _ _ _ (⟨c, cl⟩ : S94))
               (case aO => exact Kd.R_drewN HRR2.out _)
               (case aB => exact pw_below_drewN HB2.out _)
               (case aS => exact HB2.out.size)
               (case aL => have := HLIM.out; omega)
               intro v3 w3 ho hb hg hat
               obtain ⟨A3, c3, e3⟩ := Kd.R_slice ho
               rw [List.length_append, List.length_singleton] at e3
               subst e3
               have hbo3 := blk_grown (show (wr.drewN nd).heap[_]? = _ from HBO2.out) hg (Kd.R_ne HRR2.out HBO2.out (by decide))
               have hbr3 := blk_grown (show (wr.drewN nd).heap[_]? = _ from HBR2.out) hg (Kd.R_ne HRR2.out HBR2.out (by decide))
               have HRO3 := Aside0.mk (Kd.R_over' (Kd.R_drewN HRO2.out _) (Kd.R_typed (Kd.R_drewN HRR2.out _)) (by decide) hg)
               have cr3 := cell_of_one hbr3
               have fr3 := free_of_one hbr3
               have HBO3 := Aside0.mk hbo3
               have HBR3 := Aside0.mk hbr3
               have HRR3 := Aside0.mk ho
               have HB3 := Aside0.mk hb
               clear hbo3 hbr3 ho hb hg hat co2 fo2 cr2 fr2 hx))
          go_roundw
          case rel =>
            refine ⟨j + 1, by omega, by go_num, ⟨⟨_, _, _, HGO.out, ⟨HB3.out.setCell (Nat.le_succ _) _, one_setCell HBR3.out, Kd.R_set HRR3.out HBR3.out (by decide) 0 _, vo2, ?_, Kd.R_set HRO3.out HBR3.out (by decide) 0 _⟩⟩⟩⟩
            rw [Below.heap_setCell _ _ _ _ (by show w.heap.size ≠ w.heap.size + 1; omega)]
            exact HBO3.out
          case measure => simp [intOf]; omega
        · rw [if_neg hlim] at hgo; cases hgo
      · rw [if_neg hpos] at hgo
        obtain ⟨out', ho1, hgo⟩ := Option.bind_eq_some_iff.1 hgo
        by_cases hlim : out'.length < 17592186044416
        · rw [if_pos hlim] at hgo
          have HGO := Aside0.mk hgo
          have HLIM := Aside0.mk hlim
          have HO1 := Aside0.mk ho1
          have hpos' : decide (0 < cl) = false := decide_eq_false hpos
          clear hgo hlim hpos ho1
          go_wp2_with (first
            | (go_at_call 51
               refine (ucd_Class.calls k c cl _ HCL.out).mono ?_
               rintro e w' ⟨rfl, ⟨nd, rfl⟩⟩)
            | (go_at_call 73
               refine (norm_Order_1.calls k (w.heap.size + 1) w.heap.size (.slice Ar run.length cr) run out out' w _ (by omega) (by omega) (OrdInv.drewN ⟨HB2.out, HBR2.out, HRR2.out, vo2, HBO2.out, HRO2.out⟩ _) HO1.out).mono ?_
               rintro e w4 ⟨rfl, hI4⟩
               obtain ⟨hb4, hbr4, hrr4, vo4, hbo4, hro4⟩ := hI4
               have co4 := cell_of_one hbo4
               have fo4 := free_of_one hbo4
               have HB4 := Aside0.mk hb4
               have HBR4 := Aside0.mk hbr4
               have HBO4 := Aside0.mk hbo4
               have HRO4 := Aside0.mk hro4
               clear hb4 hbr4 hrr4 hbo4 hro4 co2 fo2 cr2 fr2 hx HB2 HBR2 HRR2 HBO2 HRO2)
            | (at_builtin
               refine Kd.R_append (Kd.int .i64) (w0 := w) w.heap.size rfl (.tmp 28) (.tmp 30) 27 3 (.int .i64 0) 8 rfl Try.underlying27 ord_info_int rfl (by decide) (by omega) vo4 out' c [.int .i64 c] (fun _ => True) (fun _ => False) rfl (by first | (go_simp; done) | (go_simp; rfl)) ?aP (fun _ hk => hk.elim) (fun _ _ => trivial) ?aO ?aB ?aS ?aL ?_
               (case aP => exact rfl)
               (case aO => exact HRO4.out)
               (case aB => exact HB4.out)
               (case aS => exact HB4.out.size)
               (case aL => have := HLIM.out; omega)
               intro v5 w5 ho hb hg hat
               obtain ⟨A5, c5, e5⟩ := Kd.R_slice ho
               rw [List.length_append, List.length_singleton] at e5
               subst e5
               have hbo5 := blk_grown HBO4.out hg (Kd.R_ne HRO4.out HBO4.out (by decide))
               have hbr5 := blk_grown HBR4.out hg (Kd.R_ne HRO4.out HBR4.out (by decide))
               have co5 := cell_of_one hbo5
               have fo5 := free_of_one hbo5
               have HBO5 := Aside0.mk hbo5
               have HBR5 := Aside0.mk hbr5
               have HRO5 := Aside0.mk ho
               have HB5 := Aside0.mk hb
               clear hbo5 hbr5 ho hb hg hat co4 fo4))
          go_roundw
          case rel =>
            refine ⟨j + 1, by omega, by go_num, ⟨⟨_, _, _, HGO.out, ⟨HB5.out.setCell (Nat.le_refl _) _, ?_, Kd.R_nil _ _ _ _ _, _, one_setCell HBO5.out, Kd.R_set HRO5.out HBO5.out (by decide) 0 _⟩⟩⟩⟩
            rw [Below.heap_setCell _ _ _ _ (by show w.heap.size + 1 ≠ w.heap.size; omega)]
            exact HBR5.out
          case measure => simp [intOf]; omega
        · rw [if_neg hlim] at hgo; cases hgo
    · have e : j = l0.length := by omega
      subst e
      rw [List.drop_of_length_le (Nat.le_refl _)] at hgo
      have HO1 := Aside0.mk (show norm_Order_1.f k run out = some r from hgo)
      have HI := Aside0.mk hI
      have cr2 := cell_of_one hI.br
      obtain ⟨Ar, cr, er⟩ := Kd.R_slice hI.rr
      subst er
      clear hgo hI
      go_wp2_with (
        go_at_call 73
        refine (norm_Order_1.calls k (w.heap.size + 1) w.heap.size (.slice Ar run.length cr) run out r w _ (by omega) (by omega) HI.out HO1.out).mono ?_
        rintro e w4 ⟨rfl, hI4⟩
        obtain ⟨hb4, hbr4, hrr4, vo4, hbo4, hro4⟩ := hI4
        have co4 := cell_of_one hbo4
        have HB4 := Aside0.mk hb4
        have HRO4 := Aside0.mk hro4
        clear hb4 hbr4 hrr4 hbo4 hro4 cr2)
      go_ret
      exact ⟨_, rfl, HRO4.out, HB4.out⟩

/-! ### utf_Put: function 53 -/
def utf_Put.f (l0 : List Int) (a1 : Int) : Option (List Int) := if a1 < 128 then (if l0.length < 140737488355328 then (some (l0 ++ [(a1) % 256])) else (none)) else (if a1 < 2048 then ((some (([Go.bits .or .u8 192 ((a1 / 64) % 256), Go.bits .or .u8 128 ((Go.bits .and .i64 a1 63) % 256)] : List Int) : List Int)).bind fun y257 => (if l0.length + y257.length < 140737488355328 then (some (l0 ++ y257)) else (none))) else (if a1 < 65536 then ((some (([Go.bits .or .u8 224 ((a1 / 4096) % 256), Go.bits .or .u8 128 ((Go.bits .and .i64 (a1 / 64) 63) % 256), Go.bits .or .u8 128 ((Go.bits .and .i64 a1 63) % 256)] : List Int) : List Int)).bind fun y263 => (if l0.length + y263.length < 140737488355328 then (some (l0 ++ y263)) else (none))) else ((some (([Go.bits .or .u8 240 ((a1 / 262144) % 256), Go.bits .or .u8 128 ((Go.bits .and .i64 (a1 / 4096) 63) % 256), Go.bits .or .u8 128 ((Go.bits .and .i64 (a1 / 64) 63) % 256), Go.bits .or .u8 128 ((Go.bits .and .i64 a1 63) % 256)] : List Int) : List Int)).bind fun y269 => (if l0.length + y269.length < 140737488355328 then (some (l0 ++ y269)) else (none)))))
set_option maxHeartbeats 8000000 in
set_option maxRecDepth 100000 in
theorem utf_Put.calls (P0_ : Nat → Prop) (u9000_ : Value) (l0 : List Int) (a1 : Int) (r : List Int) (w0 w : World) (hB : Below w0.heap.size w0 w) (ho0 : Kd.R (Kd.int .u8) 5 w w0.heap.size P0_ u9000_ l0) (h : utf_Put.f l0 a1 = some r) :
 Calls Try.prog 53 #[u9000_, .int .i64 a1] w fun e w' => ∃ v0_ : Value, e = .returned (v0_) ∧ Kd.R (Kd.int .u8) 5 w' w0.heap.size (fun k_ => (P0_ k_ ∨ w.heap.size ≤ k_)) v0_ r ∧ Below w0.heap.size w0 w' ∧ Kept w w' (fun k_ => P0_ k_) := by
 have HO0 := Aside0.mk (show Kd.R (Kd.int .u8) 5 w w0.heap.size (fun k_ => (P0_ k_ ∨ w.heap.size ≤ k_)) u9000_ l0 from Kd.R_mono ho0 (fun k_ hk => (.inl hk)))
 have HK := Aside0.mk (Kept.refl w (fun k_ => P0_ k_))
 have HW0 := Aside0.mk hB.size
 have HB := Aside0.mk hB
 clear hB
 have H : (if a1 < 128 then (if l0.length < 140737488355328 then (some (l0 ++ [(a1) % 256])) else (none)) else (if a1 < 2048 then ((some (([Go.bits .or .u8 192 ((a1 / 64) % 256), Go.bits .or .u8 128 ((Go.bits .and .i64 a1 63) % 256)] : List Int) : List Int)).bind fun y257 => (if l0.length + y257.length < 140737488355328 then (some (l0 ++ y257)) else (none))) else (if a1 < 65536 then ((some (([Go.bits .or .u8 224 ((a1 / 4096) % 256), Go.bits .or .u8 128 ((Go.bits .and .i64 (a1 / 64) 63) % 256), Go.bits .or .u8 128 ((Go.bits .and .i64 a1 63) % 256)] : List Int) : List Int)).bind fun y263 => (if l0.length + y263.length < 140737488355328 then (some (l0 ++ y263)) else (none))) else ((some (([Go.bits .or .u8 240 ((a1 / 262144) % 256), Go.bits .or .u8 128 ((Go.bits .and .i64 (a1 / 4096) 63) % 256), Go.bits .or .u8 128 ((Go.bits .and .i64 (a1 / 64) 63) % 256), Go.bits .or .u8 128 ((Go.bits .and .i64 a1 63) % 256)] : List Int) : List Int)).bind fun y269 => (if l0.length + y269.length < 140737488355328 then (some (l0 ++ y269)) else (none)))))) = some r := h
 clear h
 by_cases c3 : a1 < 128
 · rw [if_pos c3] at H
   have c3b0 : decide (a1 < 128) = true := decide_eq_true c3
   clear c3
   by_cases c4 : l0.length < 140737488355328
   · rw [if_pos c4] at H
     have LMc4 := Aside0.mk c4
     clear c4
     obtain ⟨y254, hy254⟩ : ∃ y_ : List Int, y_ = (l0 ++ [(a1) % 256]) := ⟨_, rfl⟩
     replace H : (some y254) = some r := by first | (rw [hy254]; with_reducible exact H) | (have H2_ := (Option.bind_some _ _).symm.trans H; rw [hy254]; with_reducible exact H2_) | (have H2_ := (Option.bind_some _ _).symm.trans H; with_reducible exact H2_) | with_reducible exact H | (rw [hy254]; exact H) | exact H
     have Ny254 := Aside0.mk hy254
     clear hy254
     obtain rfl := Option.some.inj H
     go_enter Try.func53, Try.ntmps53
     go_wp2_with (first | ((with_reducible refine gate_builtin (b := .append) (xs := #[.tmp 8, .tmp 11]) rfl ?_); at_builtin; refine Kd.R_append (Kd.int .u8) (w0 := w0) w0.heap.size rfl (.tmp 8) (.tmp 11) 35 5 (.int .u8 0) 1 rfl Try.underlying35 info5 rfl (by decide) (by omega) u9000_ l0 ((a1) % 256) [.int .u8 ((a1) % 256)] (fun k_ => (P0_ k_ ∨ w.heap.size ≤ k_)) (fun _ => False) rfl rfl ?aP (fun _ hk => hk.elim) ?aF ?aO ?aB ?aS ?aL ?_; (case aP => exact rfl); (case aB => exact (by repeat (first | (with_reducible first | exact HB.out | apply below_alloc | apply pw_below_drewN | apply below_drew1) | exact HB.out))); (case aF => exact (fun k_ hk => (.inr (Nat.le_trans (by first | exact HK.out.1 | exact (show Kept w _ (fun k_ => P0_ k_) from by repeat (first | (with_reducible first | exact HK.out | apply Kept.alloc | apply Kept.drewN | apply Kept.drew) | exact HK.out)).1) hk)))); (case aO => exact (by (with_reducible repeat (first | apply Kd.R_alloc | apply Kd.R_drewN | apply Kd.R_drew)); exact HO0.out)); (case aS => exact (below_size (by repeat (first | (with_reducible first | exact HB.out | apply below_alloc | apply pw_below_drewN | apply below_drew1) | exact HB.out)))); (case aL => have := LMc4.out; omega); intro v255 w5 ho hb hg hat; rw [← Ny254.out] at ho; have n0_ := Aside0.mk (hb); have n1_ := Aside0.mk (Kept.of_grown (S := (fun k_ => P0_ k_)) hg (by repeat (first | (with_reducible first | exact HK.out | apply Kept.alloc | apply Kept.drewN | apply Kept.drew) | exact HK.out)) (fun k_ e_ => (HO0.out.1 k_ e_))); have n2_ := Aside0.mk (ho); clear HB; clear HK; clear HO0; have HB := n0_; have HK := n1_; have HO256 := n2_; clear n0_ n1_ n2_; clear ho hb hg hat))
     go_ret
     exact ⟨_, by first | rfl | (simp [errW_none, errW_some] <;> rfl) | (simp [*, errW_none, errW_some] <;> rfl), by (with_reducible repeat (first | apply Kd.R_alloc | apply Kd.R_drewN | apply Kd.R_drew)); exact HO256.out, by repeat (first | (with_reducible first | exact HB.out | apply below_alloc | apply pw_below_drewN | apply below_drew1) | exact HB.out), by repeat (first | (with_reducible first | exact HK.out | apply Kept.alloc | apply Kept.drewN | apply Kept.drew) | exact HK.out)⟩
   · rw [if_neg c4] at H
     exact absurd H (by simp)
 · rw [if_neg c3] at H
   have c3b0 : decide (a1 < 128) = false := decide_eq_false c3
   clear c3
   by_cases c6 : a1 < 2048
   · rw [if_pos c6] at H
     have c6b0 : decide (a1 < 2048) = true := decide_eq_true c6
     clear c6
     obtain ⟨y257, hy257⟩ : ∃ y_ : List Int, y_ = (([Go.bits .or .u8 192 ((a1 / 64) % 256), Go.bits .or .u8 128 ((Go.bits .and .i64 a1 63) % 256)] : List Int)) := ⟨_, rfl⟩
     replace H : (if l0.length + y257.length < 140737488355328 then (some (l0 ++ y257)) else (none)) = some r := by first | (rw [hy257]; with_reducible exact H) | (have H2_ := (Option.bind_some _ _).symm.trans H; rw [hy257]; with_reducible exact H2_) | (have H2_ := (Option.bind_some _ _).symm.trans H; with_reducible exact H2_) | with_reducible exact H | (rw [hy257]; exact H) | exact H
     have Ny257 := Aside0.mk hy257
     clear hy257
     by_cases c7 : l0.length + y257.length < 140737488355328
     · rw [if_pos c7] at H
       have LMc7 := Aside0.mk c7
       clear c7
       obtain ⟨y260, hy260⟩ : ∃ y_ : List Int, y_ = (l0 ++ y257) := ⟨_, rfl⟩
       replace H : (some y260) = some r := by first | (rw [hy260]; with_reducible exact H) | (have H2_ := (Option.bind_some _ _).symm.trans H; rw [hy260]; with_reducible exact H2_) | (have H2_ := (Option.bind_some _ _).symm.trans H; with_reducible exact H2_) | with_reducible exact H | (rw [hy260]; exact H) | exact H
       have Ny260 := Aside0.mk hy260
       clear hy260
       obtain rfl := Option.some.inj H
       go_enter Try.func53, Try.ntmps53
       go_wp2_with (first | ((with_reducible refine gate_dst (N := 25) rfl ?_); refine Kd.R_lit (Kd.int .u8) _ 5 ?hg (N := 25) ?hd (xs := ([Go.bits .or .u8 192 ((a1 / 64) % 256), Go.bits .or .u8 128 ((Go.bits .and .i64 a1 63) % 256)] : List Int)) (inner := [.int .u8 (Go.bits .or .u8 192 ((a1 / 64) % 256)), .int .u8 (Go.bits .or .u8 128 ((Go.bits .and .i64 a1 63) % 256))]) (ok := fun _ => True) (okp := fun _ => True) ?hr ?hp (fun _ hk => hk) trivial (Below.refl _ _) (Nat.le_refl _) (by simp) ?_; (case hd => rfl); (case hg => rfl); (case hr => first | (go_simp; done) | (go_simp; rfl)); (case hp => exact (Reps.one (show Kd.M (Kd.int .u8) _ _ _ (Go.bits .or .u8 192 ((a1 / 64) % 256)) [.int .u8 (Go.bits .or .u8 192 ((a1 / 64) % 256))] from rfl) (Reps.one (show Kd.M (Kd.int .u8) _ _ _ (Go.bits .or .u8 128 ((Go.bits .and .i64 a1 63) % 256)) [.int .u8 (Go.bits .or .u8 128 ((Go.bits .and .i64 a1 63) % 256))] from rfl) (Reps.none _ _)))); intro v258 w8 ho9 hb hg_ hnew_; clear hg_ hnew_; (first | rw [← Ny257.out] at ho9 | (simp only [Int.reduceToNat] at ho9; rw [← Ny257.out] at ho9)); have n0_ := Aside0.mk (Kd.R_elder' (by (with_reducible repeat (first | apply Kd.R_alloc | apply Kd.R_drewN | apply Kd.R_drew)); exact HO0.out) (Kd.R_base ho9) hb); have n1_ := Aside0.mk (Kd.R_lower (Kd.R_new' (Kd.R_newM (M := fun k_ => (P0_ k_ ∨ w.heap.size ≤ k_)) ho9 (by first | exact HK.out.1 | exact (show Kept w _ (fun k_ => P0_ k_) from by repeat (first | (with_reducible first | exact HK.out | apply Kept.alloc | apply Kept.drewN | apply Kept.drew) | exact HK.out)).1) (fun k_ h_ => .inr h_)) (Kd.R_lt (by (with_reducible repeat (first | apply Kd.R_alloc | apply Kd.R_drewN | apply Kd.R_drew)); exact HO0.out))) (below_size (by repeat (first | (with_reducible first | exact HB.out | apply below_alloc | apply pw_below_drewN | apply below_drew1) | exact HB.out)))); have n2_ := Aside0.mk (Kept.below (S := (fun k_ => P0_ k_)) (by repeat (first | (with_reducible first | exact HK.out | apply Kept.alloc | apply Kept.drewN | apply Kept.drew) | exact HK.out)) hb); have n3_ := Aside0.mk (below_step (by repeat (first | (with_reducible first | exact HB.out | apply below_alloc | apply pw_below_drewN | apply below_drew1) | exact HB.out)) hb); clear HO0; clear HK; clear HB; have HO0 := n0_; have HO259 := n1_; have HK := n2_; have HB := n3_; clear n0_ n1_ n2_ n3_; clear hb ho9; obtain ⟨Ao11, co11, eo11⟩ := Kd.R_slice HO259.out; subst eo11) | ((with_reducible refine gate_builtin (b := .append) (xs := #[.tmp 16, .tmp 25]) rfl ?_); at_builtin; refine Kd.R_append_rows (Kd.int .u8) (w0 := w0) w0.heap.size rfl (.tmp 16) (.tmp 25) 35 5 (.int .u8 0) 1 rfl Try.underlying35 info5 rfl (by decide) (by omega) u9000_ l0 y257 _ _ _ (fun k_ => (P0_ k_ ∨ w.heap.size ≤ k_) ∧ some k_ ≠ (.slice Ao11 y257.length co11 : Value).ownBlock) (fun _ => False) rfl rfl ?aO ?aR (fun _ _ h => h) (fun _ h => h.elim) ?aF ?aB ?aS ?aL ?_; (case aR => repeat (first | exact (Kd.R_reads' HO259.out).2.2 | (with_reducible refine Kd.C_alloc ?_ _) | (with_reducible refine Kd.C_drewN ?_ _) | (with_reducible refine Kd.C_drew ?_))); (case aB => exact (by repeat (first | (with_reducible first | exact HB.out | apply below_alloc | apply pw_below_drewN | apply below_drew1) | exact HB.out))); (case aF => exact (fun k_ hk => ⟨(.inr (Nat.le_trans (by first | exact HK.out.1 | exact (show Kept w _ (fun k_ => P0_ k_) from by repeat (first | (with_reducible first | exact HK.out | apply Kept.alloc | apply Kept.drewN | apply Kept.drew) | exact HK.out)).1) hk)), Kd.fresh' (Kd.R_lt (by (with_reducible repeat (first | apply Kd.R_alloc | apply Kd.R_drewN | apply Kd.R_drew)); exact HO259.out)) k_ hk⟩)); (case aO => exact (by (with_reducible repeat (first | apply Kd.R_alloc | apply Kd.R_drewN | apply Kd.R_drew)); exact HO0.out)); (case aS => exact (below_size (by repeat (first | (with_reducible first | exact HB.out | apply below_alloc | apply pw_below_drewN | apply below_drew1) | exact HB.out)))); (case aL => have := LMc7.out; omega); intro v261 w10 ho hb hg hat; rw [← Ny260.out] at ho; have n0_ := Aside0.mk (Kd.R_after (ok := (fun k_ => (P0_ k_ ∨ w.heap.size ≤ k_))) (by (with_reducible repeat (first | apply Kd.R_alloc | apply Kd.R_drewN | apply Kd.R_drew)); exact Kd.R_mono HO259.out (fun _ hk => ⟨hk.1.1, hk.2⟩)) hg hat); have n1_ := Aside0.mk (hb); have n2_ := Aside0.mk (Kept.of_grown (S := (fun k_ => P0_ k_)) hg (by repeat (first | (with_reducible first | exact HK.out | apply Kept.alloc | apply Kept.drewN | apply Kept.drew) | exact HK.out)) (fun k_ e_ => (HO0.out.1 k_ e_).1)); have n3_ := Aside0.mk (ho); clear HO259; clear HB; clear HK; clear HO0; have HO259 := n0_; have HB := n1_; have HK := n2_; have HO262 := n3_; clear n0_ n1_ n2_ n3_; clear ho hb hg hat))
       go_ret
       exact ⟨_, by first | rfl | (simp [errW_none, errW_some] <;> rfl) | (simp [*, errW_none, errW_some] <;> rfl), by (with_reducible repeat (first | apply Kd.R_alloc | apply Kd.R_drewN | apply Kd.R_drew)); exact Kd.R_mono HO262.out (fun _ hk => hk.1), by repeat (first | (with_reducible first | exact HB.out | apply below_alloc | apply pw_below_drewN | apply below_drew1) | exact HB.out), by repeat (first | (with_reducible first | exact HK.out | apply Kept.alloc | apply Kept.drewN | apply Kept.drew) | exact HK.out)⟩
     · rw [if_neg c7] at H
       exact absurd H (by simp)
   · rw [if_neg c6] at H
     have c6b0 : decide (a1 < 2048) = false := decide_eq_false c6
     clear c6
     by_cases c12 : a1 < 65536
     · rw [if_pos c12] at H
       have c12b0 : decide (a1 < 65536) = true := decide_eq_true c12
       clear c12
       obtain ⟨y263, hy263⟩ : ∃ y_ : List Int, y_ = (([Go.bits .or .u8 224 ((a1 / 4096) % 256), Go.bits .or .u8 128 ((Go.bits .and .i64 (a1 / 64) 63) % 256), Go.bits .or .u8 128 ((Go.bits .and .i64 a1 63) % 256)] : List Int)) := ⟨_, rfl⟩
       replace H : (if l0.length + y263.length < 140737488355328 then (some (l0 ++ y263)) else (none)) = some r := by first | (rw [hy263]; with_reducible exact H) | (have H2_ := (Option.bind_some _ _).symm.trans H; rw [hy263]; with_reducible exact H2_) | (have H2_ := (Option.bind_some _ _).symm.trans H; with_reducible exact H2_) | with_reducible exact H | (rw [hy263]; exact H) | exact H
       have Ny263 := Aside0.mk hy263
       clear hy263
       by_cases c13 : l0.length + y263.length < 140737488355328
       · rw [if_pos c13] at H
         have LMc13 := Aside0.mk c13
         clear c13
         obtain ⟨y266, hy266⟩ : ∃ y_ : List Int, y_ = (l0 ++ y263) := ⟨_, rfl⟩
         replace H : (some y266) = some r := by first | (rw [hy266]; with_reducible exact H) | (have H2_ := (Option.bind_some _ _).symm.trans H; rw [hy266]; with_reducible exact H2_) | (have H2_ := (Option.bind_some _ _).symm.trans H; with_reducible exact H2_) | with_reducible exact H | (rw [hy266]; exact H) | exact H
         have Ny266 := Aside0.mk hy266
         clear hy266
         obtain rfl := Option.some.inj H
         go_enter Try.func53, Try.ntmps53
         go_wp2_with (first | ((with_reducible refine gate_dst (N := 44) rfl ?_); refine Kd.R_lit (Kd.int .u8) _ 5 ?hg (N := 44) ?hd (xs := ([Go.bits .or .u8 224 ((a1 / 4096) % 256), Go.bits .or .u8 128 ((Go.bits .and .i64 (a1 / 64) 63) % 256), Go.bits .or .u8 128 ((Go.bits .and .i64 a1 63) % 256)] : List Int)) (inner := [.int .u8 (Go.bits .or .u8 224 ((a1 / 4096) % 256)), .int .u8 (Go.bits .or .u8 128 ((Go.bits .and .i64 (a1 / 64) 63) % 256)), .int .u8 (Go.bits .or .u8 128 ((Go.bits .and .i64 a1 63) % 256))]) (ok := fun _ => True) (okp := fun _ => True) ?hr ?hp (fun _ hk => hk) trivial (Below.refl _ _) (Nat.le_refl _) (by simp) ?_; (case hd => rfl); (case hg => rfl); (case hr => first | (go_simp; done) | (go_simp; rfl)); (case hp => exact (Reps.one (show Kd.M (Kd.int .u8) _ _ _ (Go.bits .or .u8 224 ((a1 / 4096) % 256)) [.int .u8 (Go.bits .or .u8 224 ((a1 / 4096) % 256))] from rfl) (Reps.one (show Kd.M (Kd.int .u8) _ _ _ (Go.bits .or .u8 128 ((Go.bits .and .i64 (a1 / 64) 63) % 256)) [.int .u8 (Go.bits .or .u8 128 ((Go.bits .and .i64 (a1 / 64) 63) % 256))] from rfl) (Reps.one (show Kd.M (Kd.int .u8) _ _ _ (Go.bits .or .u8 128 ((Go.bits .and .i64 a1 63) % 256)) [.int .u8 (Go.bits .or .u8 128 ((Go.bits .and .i64 a1 63) % 256))] from rfl) (Reps.none _ _))))); intro v264 w14 ho15 hb hg_ hnew_; clear hg_ hnew_; (first | rw [← Ny263.out] at ho15 | (simp only [Int.reduceToNat] at ho15; rw [← Ny263.out] at ho15)); have n0_ := Aside0.mk (Kd.R_elder' (by (with_reducible repeat (first | apply Kd.R_alloc | apply Kd.R_drewN | apply Kd.R_drew)); exact HO0.out) (Kd.R_base ho15) hb); have n1_ := Aside0.mk (Kd.R_lower (Kd.R_new' (Kd.R_newM (M := fun k_ => (P0_ k_ ∨ w.heap.size ≤ k_)) ho15 (by first | exact HK.out.1 | exact (show Kept w _ (fun k_ => P0_ k_) from by repeat (first | (with_reducible first | exact HK.out | apply Kept.alloc | apply Kept.drewN | apply Kept.drew) | exact HK.out)).1) (fun k_ h_ => .inr h_)) (Kd.R_lt (by (with_reducible repeat (first | apply Kd.R_alloc | apply Kd.R_drewN | apply Kd.R_drew)); exact HO0.out))) (below_size (by repeat (first | (with_reducible first | exact HB.out | apply below_alloc | apply pw_below_drewN | apply below_drew1) | exact HB.out)))); have n2_ := Aside0.mk (Kept.below (S := (fun k_ => P0_ k_)) (by repeat (first | (with_reducible first | exact HK.out | apply Kept.alloc | apply Kept.drewN | apply Kept.drew) | exact HK.out)) hb); have n3_ := Aside0.mk (below_step (by repeat (first | (with_reducible first | exact HB.out | apply below_alloc | apply pw_below_drewN | apply below_drew1) | exact HB.out)) hb); clear HO0; clear HK; clear HB; have HO0 := n0_; have HO265 := n1_; have HK := n2_; have HB := n3_; clear n0_ n1_ n2_ n3_; clear hb ho15; obtain ⟨Ao17, co17, eo17⟩ := Kd.R_slice HO265.out; subst eo17) | ((with_reducible refine gate_builtin (b := .append) (xs := #[.tmp 30, .tmp 44]) rfl ?_); at_builtin; refine Kd.R_append_rows (Kd.int .u8) (w0 := w0) w0.heap.size rfl (.tmp 30) (.tmp 44) 35 5 (.int .u8 0) 1 rfl Try.underlying35 info5 rfl (by decide) (by omega) u9000_ l0 y263 _ _ _ (fun k_ => (P0_ k_ ∨ w.heap.size ≤ k_) ∧ some k_ ≠ (.slice Ao17 y263.length co17 : Value).ownBlock) (fun _ => False) rfl rfl ?aO ?aR (fun _ _ h => h) (fun _ h => h.elim) ?aF ?aB ?aS ?aL ?_; (case aR => repeat (first | exact (Kd.R_reads' HO265.out).2.2 | (with_reducible refine Kd.C_alloc ?_ _) | (with_reducible refine Kd.C_drewN ?_ _) | (with_reducible refine Kd.C_drew ?_))); (case aB => exact (by repeat (first | (with_reducible first | exact HB.out | apply below_alloc | apply pw_below_drewN | apply below_drew1) | exact HB.out))); (case aF => exact (fun k_ hk => ⟨(.inr (Nat.le_trans (by first | exact HK.out.1 | exact (show Kept w _ (fun k_ => P0_ k_) from by repeat (first | (with_reducible first | exact HK.out | apply Kept.alloc | apply Kept.drewN | apply Kept.drew) | exact HK.out)).1) hk)), Kd.fresh' (Kd.R_lt (by (with_reducible repeat (first | apply Kd.R_alloc | apply Kd.R_drewN | apply Kd.R_drew)); exact HO265.out)) k_ hk⟩)); (case aO => exact (by (with_reducible repeat (first | apply Kd.R_alloc | apply Kd.R_drewN | apply Kd.R_drew)); exact HO0.out)); (case aS => exact (below_size (by repeat (first | (with_reducible first | exact HB.out | apply below_alloc | apply pw_below_drewN | apply below_drew1) | exact HB.out)))); (case aL => have := LMc13.out; omega); intro v267 w16 ho hb hg hat; rw [← Ny266.out] at ho; have n0_ := Aside0.mk (Kd.R_after (ok := (fun k_ => (P0_ k_ ∨ w.heap.size ≤ k_))) (by (with_reducible repeat (first | apply Kd.R_alloc | apply Kd.R_drewN | apply Kd.R_drew)); exact Kd.R_mono HO265.out (fun _ hk => ⟨hk.1.1, hk.2⟩)) hg hat); have n1_ := Aside0.mk (hb); have n2_ := Aside0.mk (Kept.of_grown (S := (fun k_ => P0_ k_)) hg (by repeat (first | (with_reducible first | exact HK.out | apply Kept.alloc | apply Kept.drewN | apply Kept.drew) | exact HK.out)) (fun k_ e_ => (HO0.out.1 k_ e_).1)); have n3_ := Aside0.mk (ho); clear HO265; clear HB; clear HK; clear HO0; have HO265 := n0_; have HB := n1_; have HK := n2_; have HO268 := n3_; clear n0_ n1_ n2_ n3_; clear ho hb hg hat))
         go_ret
         exact ⟨_, by first | rfl | (simp [errW_none, errW_some] <;> rfl) | (simp [*, errW_none, errW_some] <;> rfl), by (with_reducible repeat (first | apply Kd.R_alloc | apply Kd.R_drewN | apply Kd.R_drew)); exact Kd.R_mono HO268.out (fun _ hk => hk.1), by repeat (first | (with_reducible first | exact HB.out | apply below_alloc | apply pw_below_drewN | apply below_drew1) | exact HB.out), by repeat (first | (with_reducible first | exact HK.out | apply Kept.alloc | apply Kept.drewN | apply Kept.drew) | exact HK.out)⟩
       · rw [if_neg c13] at H
         exact absurd H (by simp)
     · rw [if_neg c12] at H
       have c12b0 : decide (a1 < 65536) = false := decide_eq_false c12
       clear c12
       obtain ⟨y269, hy269⟩ : ∃ y_ : List Int, y_ = (([Go.bits .or .u8 240 ((a1 / 262144) % 256), Go.bits .or .u8 128 ((Go.bits .and .i64 (a1 / 4096) 63) % 256), Go.bits .or .u8 128 ((Go.bits .and .i64 (a1 / 64) 63) % 256), Go.bits .or .u8 128 ((Go.bits .and .i64 a1 63) % 256)] : List Int)) := ⟨_, rfl⟩
       replace H : (if l0.length + y269.length < 140737488355328 then (some (l0 ++ y269)) else (none)) = some r := by first | (rw [hy269]; with_reducible exact H) | (have H2_ := (Option.bind_some _ _).symm.trans H; rw [hy269]; with_reducible exact H2_) | (have H2_ := (Option.bind_some _ _).symm.trans H; with_reducible exact H2_) | with_reducible exact H | (rw [hy269]; exact H) | exact H
       have Ny269 := Aside0.mk hy269
       clear hy269
       by_cases c18 : l0.length + y269.length < 140737488355328
       · rw [if_pos c18] at H
         have LMc18 := Aside0.mk c18
         clear c18
         obtain ⟨y272, hy272⟩ : ∃ y_ : List Int, y_ = (l0 ++ y269) := ⟨_, rfl⟩
         replace H : (some y272) = some r := by first | (rw [hy272]; with_reducible exact H) | (have H2_ := (Option.bind_some _ _).symm.trans H; rw [hy272]; with_reducible exact H2_) | (have H2_ := (Option.bind_some _ _).symm.trans H; with_reducible exact H2_) | with_reducible exact H | (rw [hy272]; exact H) | exact H
         have Ny272 := Aside0.mk hy272
         clear hy272
         obtain rfl := Option.some.inj H
         go_enter Try.func53, Try.ntmps53
         go_wp2_with (first | ((with_reducible refine gate_dst (N := 65) rfl ?_); refine Kd.R_lit (Kd.int .u8) _ 5 ?hg (N := 65) ?hd (xs := ([Go.bits .or .u8 240 ((a1 / 262144) % 256), Go.bits .or .u8 128 ((Go.bits .and .i64 (a1 / 4096) 63) % 256), Go.bits .or .u8 128 ((Go.bits .and .i64 (a1 / 64) 63) % 256), Go.bits .or .u8 128 ((Go.bits .and .i64 a1 63) % 256)] : List Int)) (inner := [.int .u8 (Go.bits .or .u8 240 ((a1 / 262144) % 256)), .int .u8 (Go.bits .or .u8 128 ((Go.bits .and .i64 (a1 / 4096) 63) % 256)), .int .u8 (Go.bits .or .u8 128 ((Go.bits .and .i64 (a1 / 64) 63) % 256)), .int .u8 (Go.bits .or .u8 128 ((Go.bits .and .i64 a1 63) % 256))]) (ok := fun _ => True) (okp := fun _ => True) ?hr ?hp (fun _ hk => hk) trivial (Below.refl _ _) (Nat.le_refl _) (by simp) ?_; (case hd => rfl); (case hg => rfl); (case hr => first | (go_simp; done) | (go_simp; rfl)); (case hp => exact (Reps.one (show Kd.M (Kd.int .u8) _ _ _ (Go.bits .or .u8 240 ((a1 / 262144) % 256)) [.int .u8 (Go.bits .or .u8 240 ((a1 / 262144) % 256))] from rfl) (Reps.one (show Kd.M (Kd.int .u8) _ _ _ (Go.bits .or .u8 128 ((Go.bits .and .i64 (a1 / 4096) 63) % 256)) [.int .u8 (Go.bits .or .u8 128 ((Go.bits .and .i64 (a1 / 4096) 63) % 256))] from rfl) (Reps.one (show Kd.M (Kd.int .u8) _ _ _ (Go.bits .or .u8 128 ((Go.bits .and .i64 (a1 / 64) 63) % 256)) [.int .u8 (Go.bits .or .u8 128 ((Go.bits .and .i64 (a1 / 64) 63) % 256))] from rfl) (Reps.one (show Kd.M (Kd.int .u8) _ _ _ (Go.bits .or .u8 128 ((Go.bits .and .i64 a1 63) % 256)) [.int .u8 (Go.bits .or .u8 128 ((Go.bits .and .i64 a1 63) % 256))] from rfl) (Reps.none _ _)))))); intro v270 w19 ho20 hb hg_ hnew_; clear hg_ hnew_; (first | rw [← Ny269.out] at ho20 | (simp only [Int.reduceToNat] at ho20; rw [← Ny269.out] at ho20)); have n0_ := Aside0.mk (Kd.R_elder' (by (with_reducible repeat (first | apply Kd.R_alloc | apply Kd.R_drewN | apply Kd.R_drew)); exact HO0.out) (Kd.R_base ho20) hb); have n1_ := Aside0.mk (Kd.R_lower (Kd.R_new' (Kd.R_newM (M := fun k_ => (P0_ k_ ∨ w.heap.size ≤ k_)) ho20 (by first | exact HK.out.1 | exact (show Kept w _ (fun k_ => P0_ k_) from by repeat (first | (with_reducible first | exact HK.out | apply Kept.alloc | apply Kept.drewN | apply Kept.drew) | exact HK.out)).1) (fun k_ h_ => .inr h_)) (Kd.R_lt (by (with_reducible repeat (first | apply Kd.R_alloc | apply Kd.R_drewN | apply Kd.R_drew)); exact HO0.out))) (below_size (by repeat (first | (with_reducible first | exact HB.out | apply below_alloc | apply pw_below_drewN | apply below_drew1) | exact HB.out)))); have n2_ := Aside0.mk (Kept.below (S := (fun k_ => P0_ k_)) (by repeat (first | (with_reducible first | exact HK.out | apply Kept.alloc | apply Kept.drewN | apply Kept.drew) | exact HK.out)) hb); have n3_ := Aside0.mk (below_step (by repeat (first | (with_reducible first | exact HB.out | apply below_alloc | apply pw_below_drewN | apply below_drew1) | exact HB.out)) hb); clear HO0; clear HK; clear HB; have HO0 := n0_; have HO271 := n1_; have HK := n2_; have HB := n3_; clear n0_ n1_ n2_ n3_; clear hb ho20; obtain ⟨Ao22, co22, eo22⟩ := Kd.R_slice HO271.out; subst eo22) | ((with_reducible refine gate_builtin (b := .append) (xs := #[.tmp 46, .tmp 65]) rfl ?_); at_builtin; refine Kd.R_append_rows (Kd.int .u8) (w0 := w0) w0.heap.size rfl (.tmp 46) (.tmp 65) 35 5 (.int .u8 0) 1 rfl Try.underlying35 info5 rfl (by decide) (by omega) u9000_ l0 y269 _ _ _ (fun k_ => (P0_ k_ ∨ w.heap.size ≤ k_) ∧ some k_ ≠ (.slice Ao22 y269.length co22 : Value).ownBlock) (fun _ => False) rfl rfl ?aO ?aR (fun _ _ h => h) (fun _ h => h.elim) ?aF ?aB ?aS ?aL ?_; (case aR => repeat (first | exact (Kd.R_reads' HO271.out).2.2 | (with_reducible refine Kd.C_alloc ?_ _) | (with_reducible refine Kd.C_drewN ?_ _) | (with_reducible refine Kd.C_drew ?_))); (case aB => exact (by repeat (first | (with_reducible first | exact HB.out | apply below_alloc | apply pw_below_drewN | apply below_drew1) | exact HB.out))); (case aF => exact (fun k_ hk => ⟨(.inr (Nat.le_trans (by first | exact HK.out.1 | exact (show Kept w _ (fun k_ => P0_ k_) from by repeat (first | (with_reducible first | exact HK.out | apply Kept.alloc | apply Kept.drewN | apply Kept.drew) | exact HK.out)).1) hk)), Kd.fresh' (Kd.R_lt (by (with_reducible repeat (first | apply Kd.R_alloc | apply Kd.R_drewN | apply Kd.R_drew)); exact HO271.out)) k_ hk⟩)); (case aO => exact (by (with_reducible repeat (first | apply Kd.R_alloc | apply Kd.R_drewN | apply Kd.R_drew)); exact HO0.out)); (case aS => exact (below_size (by repeat (first | (with_reducible first | exact HB.out | apply below_alloc | apply pw_below_drewN | apply below_drew1) | exact HB.out)))); (case aL => have := LMc18.out; omega); intro v273 w21 ho hb hg hat; rw [← Ny272.out] at ho; have n0_ := Aside0.mk (Kd.R_after (ok := (fun k_ => (P0_ k_ ∨ w.heap.size ≤ k_))) (by (with_reducible repeat (first | apply Kd.R_alloc | apply Kd.R_drewN | apply Kd.R_drew)); exact Kd.R_mono HO271.out (fun _ hk => ⟨hk.1.1, hk.2⟩)) hg hat); have n1_ := Aside0.mk (hb); have n2_ := Aside0.mk (Kept.of_grown (S := (fun k_ => P0_ k_)) hg (by repeat (first | (with_reducible first | exact HK.out | apply Kept.alloc | apply Kept.drewN | apply Kept.drew) | exact HK.out)) (fun k_ e_ => (HO0.out.1 k_ e_).1)); have n3_ := Aside0.mk (ho); clear HO271; clear HB; clear HK; clear HO0; have HO271 := n0_; have HB := n1_; have HK := n2_; have HO274 := n3_; clear n0_ n1_ n2_ n3_; clear ho hb hg hat))
         go_ret
         exact ⟨_, by first | rfl | (simp [errW_none, errW_some] <;> rfl) | (simp [*, errW_none, errW_some] <;> rfl), by (with_reducible repeat (first | apply Kd.R_alloc | apply Kd.R_drewN | apply Kd.R_drew)); exact Kd.R_mono HO274.out (fun _ hk => hk.1), by repeat (first | (with_reducible first | exact HB.out | apply below_alloc | apply pw_below_drewN | apply below_drew1) | exact HB.out), by repeat (first | (with_reducible first | exact HK.out | apply Kept.alloc | apply Kept.drewN | apply Kept.drew) | exact HK.out)⟩
       · rw [if_neg c18] at H
         exact absurd H (by simp)

/-! ### stream_give: function 35 -/
def stream_give.l0 : Nat → List Int → List Int → Int → Int → Option (List Int)
 | 0, _, _, _, _ => none
 | k + 1, x3, x7, x8, x9 => if x9 < x8 then (if 0 ≤ x9 then (if x9 < (x7.length : Int) then ((utf_Put.f x3 (rd x7 x9)).bind fun t279 => (stream_give.l0 k t279 x7 x8 (wrap64 (x9 + 1)))) else (none)) else (none)) else (some x3)
def stream_give.f (k : Nat) (l0 : List Int) : Option (List Int) := (norm_Order.f k l0).bind fun t275 => (stream_give.l0 k ([] : List Int) t275 (t275.length : Int) 0)
theorem stream_give.mono_l : ∀ k, (∀ y0 y1 y2 y3, LeO (stream_give.l0 k y0 y1 y2 y3) (stream_give.l0 (k + 1) y0 y1 y2 y3))
 | 0 => fun _ _ _ _ r h => by simp [stream_give.l0] at h
 | k + 1 => by
  have ih0 := stream_give.mono_l k
  · intro y0 y1 y2 y3
    unfold stream_give.l0
    repeat' first
    | (with_reducible exact ih0 _ _ _ _)
    | (with_reducible exact norm_Order.mono _ _)
    | (with_reducible exact LeO.refl _)
    | (with_reducible exact LeO.none _)
    | (with_reducible refine LeO.ite ?_ ?_)
    | (with_reducible refine LeO.bind ?_ (fun _ => ?_))
    | exact ih0 _ _ _ _
    | exact norm_Order.mono _ _
    | exact LeO.none _
    | refine LeO.ite ?_ ?_
    | refine LeO.bind ?_ (fun _ => ?_)
theorem stream_give.mono : ∀ a0 k, LeO (stream_give.f k a0) (stream_give.f (k + 1) a0) := by
 intro a0 k
 have ih0 := stream_give.mono_l k
 unfold stream_give.f
 repeat' first
  | (with_reducible exact ih0 _ _ _ _)
  | (with_reducible exact norm_Order.mono _ _)
  | (with_reducible exact LeO.refl _)
  | (with_reducible exact LeO.none _)
  | (with_reducible refine LeO.ite ?_ ?_)
  | (with_reducible refine LeO.bind ?_ (fun _ => ?_))
  | exact ih0 _ _ _ _
  | exact norm_Order.mono _ _
  | exact LeO.none _
  | refine LeO.ite ?_ ?_
  | refine LeO.bind ?_ (fun _ => ?_)
set_option maxHeartbeats 8000000 in
set_option maxRecDepth 100000 in
theorem stream_give.calls (k : Nat) (A0 : Option Addr) (c0 : Nat) (l0 : List Int) (r : List Int) (w : World) (hr0 : Kd.C (Kd.int .i64) w A0 l0.length l0) (hc0 : l0.length ≤ c0) (h : stream_give.f k l0 = some r) :
 Calls Try.prog 35 #[.slice A0 l0.length c0] w fun e w' => ∃ v0_ : Value, e = .returned (v0_) ∧ Kd.R (Kd.int .u8) 5 w' w.heap.size (fun _ => True) v0_ r ∧ Below w.heap.size w w' := by
 have HR0 := Aside0.mk hr0
 have HC0 := Aside0.mk hc0
 clear hr0 hc0
 have HB := Aside0.mk (Below.refl w.heap.size w)
 have H : ((norm_Order.f k l0).bind fun t275 => (stream_give.l0 k ([] : List Int) t275 (t275.length : Int) 0)) = some r := h
 clear h
 replace H := Option.bind_eq_some_iff.mp H
 obtain ⟨t275, A20, H⟩ := H
 replace H : (stream_give.l0 k ([] : List Int) t275 (t275.length : Int) 0) = some r := H
 have A2 := Aside0.mk A20
 clear A20
 have H' := Aside0.mk H
 clear H
 go_enter Try.func35, Try.ntmps35
 go_wp2_with (first | ((with_reducible refine gate_callee (f := 52) rfl ?_); refine goesL_ (some 7) rfl rfl Try.func52 (by kernel_rfl) rfl #[.slice A0 l0.length c0] rfl (by (try simp only [List.map_toArray, List.map_cons, List.map_nil]); first | done | rfl | (simp only [List.length_drop, List.length_take]; rfl)) ?_; (with_reducible refine (norm_Order.calls k _ _ l0 t275 _ ?side1 ?side2 A2.out).mono ?_); (case side1 => repeat (first | exact HR0.out | (with_reducible refine Kd.C_alloc ?_ _) | (with_reducible refine Kd.C_drewN ?_ _) | (with_reducible refine Kd.C_drew ?_))); (case side2 => exact HC0.out); rintro e w3 ⟨v276, rfl, ho0, hb⟩; refine ⟨_, rfl, ?_⟩; have n0_ := Aside0.mk (Kd.R_lower ho0 (below_size (by repeat (first | (with_reducible first | exact HB.out | apply below_alloc | apply pw_below_drewN | apply below_drew1) | exact HB.out)))); have n1_ := Aside0.mk (below_step (by repeat (first | (with_reducible first | exact HB.out | apply below_alloc | apply pw_below_drewN | apply below_drew1) | exact HB.out)) hb); clear HB; have HO277 := n0_; have HB := n1_; clear n0_ n1_; (try clear hb); (try clear hb2); (try clear hk); (try clear hi); (try clear ho0); obtain ⟨Ao4, co4, eo4⟩ := Kd.R_slice HO277.out; subst eo4))
 try simp only [Act.put, List.setIfInBounds_toArray, List.set_cons_succ, List.set_cons_zero]
 go_loopg [3, 9] k (fun kq v3 v9 w' => ∃ (x3_1 : List Int) (x9_1 : Int), v9 = .int .i64 x9_1 ∧ Aside0 (stream_give.l0 kq x3_1 t275 (t275.length : Int) x9_1 = some r) ∧ Aside0 (kq ≤ k) ∧ Aside0 (Kd.R (Kd.int .u8) 5 w' w.heap.size (fun _ => True) v3 x3_1) ∧ Aside0 (Kd.R (Kd.int .i64) 3 w' w.heap.size (fun _ => True) (.slice Ao4 t275.length co4) t275) ∧ Aside0 (Below w.heap.size w w'))
 case atStart => exact ⟨(([] : List Int)), (0), (by first | rfl | (simp; done) | (simp [*]; done)), H', ⟨Nat.le_refl _⟩, ⟨by first | exact Kd.R_nil _ _ _ _ _ | exact Kd.N_nil _ _ _ _ _ | exact Kd.V_nil _ _ _ _ _ | exact Kd.Q_nil _ _ _ _ _ | exact Kd.S_nil _ _ _ _ _⟩, ⟨by (with_reducible repeat (first | apply Kd.R_alloc | apply Kd.R_drewN | apply Kd.R_drew)); exact HO277.out⟩, ⟨by repeat (first | (with_reducible first | exact HB.out | apply below_alloc | apply pw_below_drewN | apply below_drew1) | exact HB.out)⟩⟩
 case round =>
  clear H'
  (try clear p2); (try clear c3)
  obtain ⟨x3_1, x9_1, rfl, HA, HK1, HO_3, HO_7, HB⟩ := hrel
  cases gk with
  | zero => exact absurd HA.out (by simp [stream_give.l0])
  | succ k1 =>
   have H := HA.out
   clear HA
   simp only [stream_give.l0] at H
   by_cases c5 : x9_1 < (t275.length : Int)
   · rw [if_pos c5] at H
     have c5b0 : decide (x9_1 < (t275.length : Int)) = true := decide_eq_true c5
     clear c5
     by_cases c6 : 0 ≤ x9_1
     · rw [if_pos c6] at H
       have c6b0 : decide (0 ≤ x9_1) = true := decide_eq_true c6
       clear c6
       by_cases c7 : x9_1 < (t275.length : Int)
       · rw [if_pos c7] at H
         have c7b0 : decide (x9_1 < (t275.length : Int)) = true := decide_eq_true c7
         clear c7
         replace H := Option.bind_eq_some_iff.mp H
         obtain ⟨t279, A80, H⟩ := H
         replace H : (stream_give.l0 k1 t279 t275 (t275.length : Int) (wrap64 (x9_1 + 1))) = some r := H
         have A8 := Aside0.mk A80
         clear A80
         have H' := Aside0.mk H
         clear H
         have p278 : 0 ≤ (x9_1 : Int) := of_decide_eq_true (by first | (with_reducible assumption) | assumption)
         have q278 : x9_1 < (t275.length : Int) := of_decide_eq_true (by first | (with_reducible assumption) | assumption)
         obtain ⟨ad278, e278, hx278_0⟩ := Kd.at_int (Kd.R_reads' HO_7.out).2.2 x9_1 p278 q278
         cases e278
         replace p278 := eq_true p278
         replace q278 := eq_true q278
         obtain ⟨Ao9, co9, eo9⟩ := Kd.R_slice HO_3.out
         subst eo9
         go_wp2_with (first | ((with_reducible refine gate_callee (f := 53) rfl ?_); refine goesL_ (some 15) rfl rfl Try.func53 (by kernel_rfl) rfl #[.slice Ao9 x3_1.length co9, .int .i64 (rd t275 x9_1)] rfl (by (try simp only [List.map_toArray, List.map_cons, List.map_nil]); first | done | rfl | (simp only [List.length_drop, List.length_take]; rfl)) ?_; (with_reducible refine (utf_Put.calls (fun k_ => some k_ = (.slice Ao9 x3_1.length co9 : Value).ownBlock) (.slice Ao9 x3_1.length co9) x3_1 (rd t275 x9_1) t279 w _ ?side1 ?side2 A8.out).mono ?_); (case side1 => repeat (first | (with_reducible first | exact HB.out | apply below_alloc | apply pw_below_drewN | apply below_drew1) | exact HB.out)); (case side2 => exact Kd.R_tight rfl HO_3.out); rintro e w10 ⟨v280, rfl, ho0, hb, hkp⟩; refine ⟨_, rfl, ?_⟩; have n0_ := Aside0.mk (Kd.R_mono (ok' := fun k_ => True) (Kd.R_keptB ((Kd.R_apart' HO_7.out (Kd.R_typed HO_3.out) (by decide))) hkp (fun k_ hk_ hs_ => (hk_.2) hs_)) (fun k_ hk_ => trivial)); have n1_ := Aside0.mk (Kd.R_mono (ok' := fun k_ => True) ho0 (fun k_ hk_ => trivial)); have n2_ := Aside0.mk (hb); clear HO_7; clear HB; clear HO_3; have HO_7 := n0_; have HO281 := n1_; have HB := n2_; clear n0_ n1_ n2_; (try clear hb); (try clear hkp); (try clear ho0)))
         go_roundg k1
         case measure => have := HK1.out; omega
         case rel => exact ⟨(t279), (wrap64 (x9_1 + 1)), (by first | rfl | (simp; done) | (simp [*]; done)), H', ⟨by have := HK1.out; omega⟩, ⟨by (with_reducible repeat (first | apply Kd.R_alloc | apply Kd.R_drewN | apply Kd.R_drew)); exact HO281.out⟩, ⟨by (with_reducible repeat (first | apply Kd.R_alloc | apply Kd.R_drewN | apply Kd.R_drew)); exact HO_7.out⟩, ⟨by repeat (first | (with_reducible first | exact HB.out | apply below_alloc | apply pw_below_drewN | apply below_drew1) | exact HB.out)⟩⟩
       · rw [if_neg c7] at H
         exact absurd H (by simp)
     · rw [if_neg c6] at H
       exact absurd H (by simp)
   · rw [if_neg c5] at H
     have c5b0 : decide (x9_1 < (t275.length : Int)) = false := decide_eq_false c5
     clear c5
     obtain rfl := Option.some.inj H
     go_wp2
     go_ret
     exact ⟨_, by first | rfl | (simp [errW_none, errW_some] <;> rfl) | (simp [*, errW_none, errW_some] <;> rfl), by (with_reducible repeat (first | apply Kd.R_alloc | apply Kd.R_drewN | apply Kd.R_drew)); exact HO_3.out, by repeat (first | (with_reducible first | exact HB.out | apply below_alloc | apply pw_below_drewN | apply below_drew1) | exact HB.out)⟩

end Go.Proofs.Ytiplbhjllkfemaa.MSt
