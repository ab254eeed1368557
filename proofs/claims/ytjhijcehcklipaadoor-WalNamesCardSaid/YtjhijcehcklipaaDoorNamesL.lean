-- written by mp.py, a program of this session's over the kit's printer
import Derived.Test.YtjhijcehcklipaaDoorMWalNamesx0
namespace Go.Proofs.YtjhijcehcklipaaDoor.MWalNames
open Go.RowKit Go.Proofs.YtjhijcehcklipaaDoorW.PrintWords Go.Proofs.YtjhijcehcklipaaDoorW.PrintLast Go.Proofs.YtjhijcehcklipaaDoorW.PrintMore
attribute [local go_sem] max2_int min2_int max_two min_two max_three min_three max_four min_four   -- for this text's walks alone
set_option linter.unusedVariables false
set_option linter.unusedSimpArgs false

/-! ### incipitlaw13_begun: function 4 -/
def incipitlaw13_begun.f : Option Bool := some true
theorem incipitlaw13_begun.calls (r : Bool) (w : World) (h : incipitlaw13_begun.f = some r) :
 Calls Tryd.prog 4 #[] w fun e w' => e = .returned (.bool r) ∧ Below w.heap.size w w' := by
 obtain rfl := Option.some.inj h
 exact Begun4.holds w

/-! ### wal_Name: function 5 -/
def wal_Name.f (a0 : Int) : Option ByteArray := WalName.name a0
theorem wal_Name.calls (a0 : Int) (r : ByteArray) (w : World) (h : wal_Name.f a0 = some r) (ht : WalName.Tab w) :
 Calls Tryd.prog 5 #[.int .i64 a0] w fun e w' => e = .returned (.string r) ∧ Below w.heap.size w w' := WalName.calls a0 r w h ht

/-! ### incipitlaw13_WalNames: function 3 -/
mutual
def incipitlaw13_WalNames.j0 : Nat → Int → Int → Bool → Option (Bool)
 | 0, _, _, _ => none
 | k + 1, x0, x1, x26 => if x26 = true then (some true) else ((wal_Name.f x0).bind fun t304 => ((wal_Name.f x1).bind fun t305 => (incipitlaw13_WalNames.l0 k x0 x1 t304 t305 0 0)))
def incipitlaw13_WalNames.l0 : Nat → Int → Int → ByteArray → ByteArray → Int → Int → Option (Bool)
 | 0, _, _, _, _, _, _ => none
 | k + 1, x0, x1, x6, x7, x8, x9 => if (wrap64 (x9 + 4)) < (x6.size : Int) then (if 0 ≤ x9 then (if x9 < (x6.size : Int) then (incipitlaw13_WalNames.l0 k x0 x1 x6 x7 (wrap64 ((wrap64 (x8 * 10)) + (((bt x6 x9) - 48) % 256))) (wrap64 (x9 + 1))) else (none)) else (none)) else (if x8 = x0 then (if (x6.size : Int) > 4 then (if 0 ≤ (wrap64 ((x6.size : Int) - 4)) then (if (wrap64 ((x6.size : Int) - 4)) ≤ (x6.size : Int) then (if (x6.extract ((wrap64 ((x6.size : Int) - 4)) : Int).toNat x6.size).toList = ([46, 108, 111, 103] : List UInt8) then (some ((x6.toList == x7.toList) == (x0 == x1))) else (none)) else (none)) else (none)) else (none)) else (none))
end
def incipitlaw13_WalNames.f (k : Nat) (a0 : Int) (a1 : Int) : Option (Bool) := (incipitlaw13_begun.f).bind fun t303 => (if t303 = true then (if a0 < 1 then (incipitlaw13_WalNames.j0 k a0 a1 true) else (if a0 > 1125899906842624 then (incipitlaw13_WalNames.j0 k a0 a1 true) else (if a1 < 1 then (incipitlaw13_WalNames.j0 k a0 a1 true) else (incipitlaw13_WalNames.j0 k a0 a1 (decide (a1 > 1125899906842624)))))) else (none))
theorem incipitlaw13_WalNames.mono_l : ∀ k, (∀ y0 y1 y2, LeO (incipitlaw13_WalNames.j0 k y0 y1 y2) (incipitlaw13_WalNames.j0 (k + 1) y0 y1 y2)) ∧ (∀ y0 y1 y2 y3 y4 y5, LeO (incipitlaw13_WalNames.l0 k y0 y1 y2 y3 y4 y5) (incipitlaw13_WalNames.l0 (k + 1) y0 y1 y2 y3 y4 y5))
 | 0 => ⟨fun _ _ _ r h => by simp [incipitlaw13_WalNames.j0] at h, fun _ _ _ _ _ _ r h => by simp [incipitlaw13_WalNames.l0] at h⟩
 | k + 1 => by
  obtain ⟨ih0, ih1⟩ := incipitlaw13_WalNames.mono_l k
  refine ⟨?_, ?_⟩
  · intro y0 y1 y2
    unfold incipitlaw13_WalNames.j0
    repeat' first
    | (with_reducible exact ih0 _ _ _)
    | (with_reducible exact ih1 _ _ _ _ _ _)
    | (with_reducible exact LeO.refl _)
    | (with_reducible exact LeO.none _)
    | (with_reducible refine LeO.ite ?_ ?_)
    | (with_reducible refine LeO.bind ?_ (fun _ => ?_))
    | exact ih0 _ _ _
    | exact ih1 _ _ _ _ _ _
    | exact LeO.none _
    | refine LeO.ite ?_ ?_
    | refine LeO.bind ?_ (fun _ => ?_)
  · intro y0 y1 y2 y3 y4 y5
    unfold incipitlaw13_WalNames.l0
    repeat' first
    | (with_reducible exact ih0 _ _ _)
    | (with_reducible exact ih1 _ _ _ _ _ _)
    | (with_reducible exact LeO.refl _)
    | (with_reducible exact LeO.none _)
    | (with_reducible refine LeO.ite ?_ ?_)
    | (with_reducible refine LeO.bind ?_ (fun _ => ?_))
    | exact ih0 _ _ _
    | exact ih1 _ _ _ _ _ _
    | exact LeO.none _
    | refine LeO.ite ?_ ?_
    | refine LeO.bind ?_ (fun _ => ?_)
theorem incipitlaw13_WalNames.mono : ∀ a0 a1 k, LeO (incipitlaw13_WalNames.f k a0 a1) (incipitlaw13_WalNames.f (k + 1) a0 a1) := by
 intro a0 a1 k
 obtain ⟨ih0, ih1⟩ := incipitlaw13_WalNames.mono_l k
 unfold incipitlaw13_WalNames.f
 repeat' first
  | (with_reducible exact ih0 _ _ _)
  | (with_reducible exact ih1 _ _ _ _ _ _)
  | (with_reducible exact LeO.refl _)
  | (with_reducible exact LeO.none _)
  | (with_reducible refine LeO.ite ?_ ?_)
  | (with_reducible refine LeO.bind ?_ (fun _ => ?_))
  | exact ih0 _ _ _
  | exact ih1 _ _ _ _ _ _
  | exact LeO.none _
  | refine LeO.ite ?_ ?_
  | refine LeO.bind ?_ (fun _ => ?_)
set_option maxHeartbeats 8000000 in
set_option maxRecDepth 100000 in
theorem incipitlaw13_WalNames.calls (k : Nat) (a0 : Int) (a1 : Int) (r : Bool) (w : World) (h : incipitlaw13_WalNames.f k a0 a1 = some r) (HT : Aside0 (WalName.Tab w)) :
 Calls Tryd.prog 3 #[.int .i64 a0, .int .i64 a1] w fun e w' => e = .returned (.bool r) ∧ Below w.heap.size w w' := by
 have HB := Aside0.mk (Below.refl w.heap.size w)
 have H : ((incipitlaw13_begun.f).bind fun t303 => (if t303 = true then (if a0 < 1 then (incipitlaw13_WalNames.j0 k a0 a1 true) else (if a0 > 1125899906842624 then (incipitlaw13_WalNames.j0 k a0 a1 true) else (if a1 < 1 then (incipitlaw13_WalNames.j0 k a0 a1 true) else (incipitlaw13_WalNames.j0 k a0 a1 (decide (a1 > 1125899906842624)))))) else (none))) = some r := h
 clear h
 replace H := Option.bind_eq_some_iff.mp H
 obtain ⟨t303, A30, H⟩ := H
 replace H : (if t303 = true then (if a0 < 1 then (incipitlaw13_WalNames.j0 k a0 a1 true) else (if a0 > 1125899906842624 then (incipitlaw13_WalNames.j0 k a0 a1 true) else (if a1 < 1 then (incipitlaw13_WalNames.j0 k a0 a1 true) else (incipitlaw13_WalNames.j0 k a0 a1 (decide (a1 > 1125899906842624)))))) else (none)) = some r := H
 have A3 := Aside0.mk A30
 clear A30
 by_cases c4 : t303 = true
 · subst c4
   have H1 : (if a0 < 1 then (incipitlaw13_WalNames.j0 k a0 a1 true) else (if a0 > 1125899906842624 then (incipitlaw13_WalNames.j0 k a0 a1 true) else (if a1 < 1 then (incipitlaw13_WalNames.j0 k a0 a1 true) else (incipitlaw13_WalNames.j0 k a0 a1 (decide (a1 > 1125899906842624)))))) = some r := by rw [if_pos rfl] at H; exact H
   clear H
   have H := H1
   clear H1
   have HC5 := Aside0.mk H
   clear H
   go_enter Tryd.func3, Tryd.ntmps3
   go_upto_region 4 with (first | ((with_reducible refine gate_callee (f := 4) rfl ?_); refine goesL_ (some 10) rfl rfl Tryd.func4 (by kernel_rfl) rfl #[] rfl (by (try simp only [List.map_toArray, List.map_cons, List.map_nil]); first | done | rfl | (simp only [List.length_drop, List.length_take]; rfl)) ?_; (with_reducible refine (incipitlaw13_begun.calls  true _ A3.out).mono ?_); rintro e w6 ⟨rfl, hb⟩; refine ⟨_, rfl, ?_⟩; have n0_ := Aside0.mk (below_step (by repeat (first | (with_reducible first | exact HB.out | apply below_alloc | apply pw_below_drewN | apply below_drew1) | exact HB.out)) hb); clear HB; have HB := n0_; clear n0_; (try clear hb); (try clear hb2); (try clear hk); (try clear hi)))
   (try simp only [Act.put, List.setIfInBounds_toArray, List.set_cons_zero, List.set_cons_succ])
   go_cut [26] (fun v26 wc => ∃ (kq : Nat) (x26_4 : Bool), v26 = .bool x26_4 ∧ Aside0 (incipitlaw13_WalNames.j0 kq a0 a1 x26_4 = some r) ∧ Aside0 (kq ≤ k) ∧ Aside0 (Below w.heap.size w wc))
   case first =>
    have H := HC5.out
    clear HC5
    by_cases c7 : a0 < 1
    · rw [if_pos c7] at H
      have c7b0 : decide (a0 < 1) = true := decide_eq_true c7
      clear c7
      (first | rw [c7b0] | (simp only [i64_w, i32_w]; rw [c7b0]) | skip)
      have H' := Aside0.mk H
      clear H
      go_wp2
      go_meet
      case rel => exact ⟨_, (true), (by first | rfl | (simp; done) | (simp [*]; done)), H', ⟨by first | omega | exact Nat.le_refl _⟩, ⟨by repeat (first | (with_reducible first | exact HB.out | apply below_alloc | apply pw_below_drewN | apply below_drew1) | exact HB.out)⟩⟩
    · rw [if_neg c7] at H
      have c7b0 : decide (a0 < 1) = false := decide_eq_false c7
      clear c7
      (first | rw [c7b0] | (simp only [i64_w, i32_w]; rw [c7b0]) | skip)
      by_cases c8 : a0 > 1125899906842624
      · rw [if_pos c8] at H
        have c8b0 : decide (1125899906842624 < a0) = true := decide_eq_true c8
        clear c8
        have H' := Aside0.mk H
        clear H
        go_wp2
        go_meet
        case rel => exact ⟨_, (true), (by first | rfl | (simp; done) | (simp [*]; done)), H', ⟨by first | omega | exact Nat.le_refl _⟩, ⟨by repeat (first | (with_reducible first | exact HB.out | apply below_alloc | apply pw_below_drewN | apply below_drew1) | exact HB.out)⟩⟩
      · rw [if_neg c8] at H
        have c8b0 : decide (1125899906842624 < a0) = false := decide_eq_false c8
        clear c8
        by_cases c9 : a1 < 1
        · rw [if_pos c9] at H
          have c9b0 : decide (a1 < 1) = true := decide_eq_true c9
          clear c9
          have H' := Aside0.mk H
          clear H
          go_wp2
          go_meet
          case rel => exact ⟨_, (true), (by first | rfl | (simp; done) | (simp [*]; done)), H', ⟨by first | omega | exact Nat.le_refl _⟩, ⟨by repeat (first | (with_reducible first | exact HB.out | apply below_alloc | apply pw_below_drewN | apply below_drew1) | exact HB.out)⟩⟩
        · rw [if_neg c9] at H
          have c9b0 : decide (a1 < 1) = false := decide_eq_false c9
          clear c9
          have H' := Aside0.mk H
          clear H
          go_wp2
          go_meet
          case rel => exact ⟨_, (decide (a1 > 1125899906842624)), (by first | rfl | (simp; done) | (simp [*]; done)), H', ⟨by first | omega | exact Nat.le_refl _⟩, ⟨by repeat (first | (with_reducible first | exact HB.out | apply below_alloc | apply pw_below_drewN | apply below_drew1) | exact HB.out)⟩⟩
   case rest =>
    clear HC5
    (try clear p2); (try clear c3); (try clear c4); (try clear c7); (try clear c7b0); (try clear c8); (try clear c8b0); (try clear c9); (try clear c9b0)
    obtain ⟨kq, x26_4, rfl, HA, HJ4, HB⟩ := hcut
    cases kq with
    | zero => exact absurd HA.out (by simp [incipitlaw13_WalNames.j0])
    | succ kj4 =>
     have H := HA.out
     clear HA
     simp only [incipitlaw13_WalNames.j0] at H
     by_cases c10 : x26_4 = true
     · subst c10
       have H1 : (some true) = some r := by rw [if_pos rfl] at H; exact H
       clear H
       have H := H1
       clear H1
       obtain rfl := Option.some.inj H
       go_wp2
       go_ret
       exact ⟨by first | rfl | (simp [errW_none, errW_some] <;> rfl) | (simp [*, errW_none, errW_some] <;> rfl) | (first | (simp (disch := omega) [w64_s, errW_none, errW_some]; done) | (simp (disch := omega) [w64_s, errW_none, errW_some] <;> rfl)), by repeat (first | (with_reducible first | exact HB.out | apply below_alloc | apply pw_below_drewN | apply below_drew1) | exact HB.out)⟩
     · replace c10 := Bool.eq_false_iff.mpr c10
       subst c10
       have H1 : ((wal_Name.f a0).bind fun t304 => ((wal_Name.f a1).bind fun t305 => (incipitlaw13_WalNames.l0 kj4 a0 a1 t304 t305 0 0))) = some r := by rw [if_neg (show ¬ (false = true) by decide)] at H; exact H
       clear H
       have H := H1
       clear H1
       replace H := Option.bind_eq_some_iff.mp H
       obtain ⟨t304, A110, H⟩ := H
       replace H : ((wal_Name.f a1).bind fun t305 => (incipitlaw13_WalNames.l0 kj4 a0 a1 t304 t305 0 0)) = some r := H
       have A11 := Aside0.mk A110
       clear A110
       replace H := Option.bind_eq_some_iff.mp H
       obtain ⟨t305, A120, H⟩ := H
       replace H : (incipitlaw13_WalNames.l0 kj4 a0 a1 t304 t305 0 0) = some r := H
       have A12 := Aside0.mk A120
       clear A120
       have H' := Aside0.mk H
       clear H
       go_wp2_with (first | ((with_reducible refine gate_callee (f := 5) rfl ?_); refine goesL_ (some 28) rfl rfl Tryd.func5 (by kernel_rfl) rfl #[.int .i64 a0] rfl (by (try simp only [List.map_toArray, List.map_cons, List.map_nil]); first | done | rfl | (simp only [List.length_drop, List.length_take]; rfl)) ?_; (with_reducible refine (wal_Name.calls a0 t304 _ A11.out (WalName.Tab.below HT.out (by repeat (first | (with_reducible first | exact HB.out | apply below_alloc | apply pw_below_drewN | apply below_drew1) | exact HB.out)))).mono ?_); rintro e w13 ⟨rfl, hb⟩; refine ⟨_, rfl, ?_⟩; have n0_ := Aside0.mk (below_step (by repeat (first | (with_reducible first | exact HB.out | apply below_alloc | apply pw_below_drewN | apply below_drew1) | exact HB.out)) hb); clear HB; have HB := n0_; clear n0_; (try clear hb); (try clear hb2); (try clear hk); (try clear hi)) | ((with_reducible refine gate_callee (f := 5) rfl ?_); refine goesL_ (some 30) rfl rfl Tryd.func5 (by kernel_rfl) rfl #[.int .i64 a1] rfl (by (try simp only [List.map_toArray, List.map_cons, List.map_nil]); first | done | rfl | (simp only [List.length_drop, List.length_take]; rfl)) ?_; (with_reducible refine (wal_Name.calls a1 t305 _ A12.out (WalName.Tab.below HT.out (by repeat (first | (with_reducible first | exact HB.out | apply below_alloc | apply pw_below_drewN | apply below_drew1) | exact HB.out)))).mono ?_); rintro e w14 ⟨rfl, hb⟩; refine ⟨_, rfl, ?_⟩; have n0_ := Aside0.mk (below_step (by repeat (first | (with_reducible first | exact HB.out | apply below_alloc | apply pw_below_drewN | apply below_drew1) | exact HB.out)) hb); clear HB; have HB := n0_; clear n0_; (try clear hb); (try clear hb2); (try clear hk); (try clear hi)))
       try simp only [Act.put, List.setIfInBounds_toArray, List.set_cons_succ, List.set_cons_zero]
       go_loopg [8, 9] kj4 (fun kq v8 v9 w' => ∃ (x8_2 : Int) (x9_2 : Int), v8 = .int .i64 x8_2 ∧ v9 = .int .i64 x9_2 ∧ Aside0 (incipitlaw13_WalNames.l0 kq a0 a1 t304 t305 x8_2 x9_2 = some r) ∧ Aside0 (kq ≤ kj4) ∧ Aside0 (Below w.heap.size w w'))
       case atStart => exact ⟨(0), (0), (by first | rfl | (simp; done) | (simp [*]; done)), (by first | rfl | (simp; done) | (simp [*]; done)), H', ⟨Nat.le_refl _⟩, ⟨by repeat (first | (with_reducible first | exact HB.out | apply below_alloc | apply pw_below_drewN | apply below_drew1) | exact HB.out)⟩⟩
       case round =>
        clear H'
        (try clear c1); (try clear p2); (try clear c3); (try clear c4); (try clear c5); (try clear c7); (try clear c7b0); (try clear c8); (try clear c8b0); (try clear c9); (try clear c9b0); (try clear c10); (try clear p2)
        obtain ⟨x8_2, x9_2, rfl, rfl, HA, HK2, HB⟩ := hrel
        cases gk with
        | zero => exact absurd HA.out (by simp [incipitlaw13_WalNames.l0])
        | succ k2 =>
         have H := HA.out
         clear HA
         simp only [incipitlaw13_WalNames.l0] at H
         by_cases c15 : (wrap64 (x9_2 + 4)) < (t304.size : Int)
         · rw [if_pos c15] at H
           have c15b0 : decide ((wrap64 (x9_2 + 4)) < (t304.size : Int)) = true := decide_eq_true c15
           clear c15
           by_cases c16 : 0 ≤ x9_2
           · rw [if_pos c16] at H
             have c16b0 : decide (0 ≤ x9_2) = true := decide_eq_true c16
             clear c16
             by_cases c17 : x9_2 < (t304.size : Int)
             · rw [if_pos c17] at H
               have c17b0 : decide (x9_2 < (t304.size : Int)) = true := decide_eq_true c17
               clear c17
               have H' := Aside0.mk H
               clear H
               have p18 : 0 ≤ (x9_2 : Int) := of_decide_eq_true (by first | (with_reducible assumption) | assumption)
               have q18 : x9_2 < (t304.size : Int) := of_decide_eq_true (by first | (with_reducible assumption) | assumption)
               have hx18 := bt_at t304 x9_2
               replace p18 := eq_true p18
               replace q18 := eq_true q18
               go_wp2
               go_roundg k2
               case measure => have := HJ4.out; have := HK2.out; omega
               case rel => exact ⟨(wrap64 ((wrap64 (x8_2 * 10)) + (((bt t304 x9_2) - 48) % 256))), (wrap64 (x9_2 + 1)), (by first | rfl | (simp; done) | (simp [*]; done)), (by first | rfl | (simp; done) | (simp [*]; done)), H', ⟨by have := HJ4.out; have := HK2.out; omega⟩, ⟨by repeat (first | (with_reducible first | exact HB.out | apply below_alloc | apply pw_below_drewN | apply below_drew1) | exact HB.out)⟩⟩
             · rw [if_neg c17] at H
               exact absurd H (by simp)
           · rw [if_neg c16] at H
             exact absurd H (by simp)
         · rw [if_neg c15] at H
           have c15b0 : decide ((wrap64 (x9_2 + 4)) < (t304.size : Int)) = false := decide_eq_false c15
           clear c15
           by_cases c19 : x8_2 = a0
           · rw [if_pos c19] at H
             have c19b0 : (x8_2 == a0) = true := beq_iff_eq.mpr c19
             have c19b1 : (x8_2 != a0) = false := bne_eq_false_iff_eq.mpr c19
             clear c19
             by_cases c20 : (t304.size : Int) > 4
             · rw [if_pos c20] at H
               have c20b0 : decide (4 < (t304.size : Int)) = true := decide_eq_true c20
               have c20b1 : decide (4 < t304.size) = true := decide_eq_true (by omega)
               clear c20
               obtain ⟨ji21, hji21⟩ : ∃ j_ : Int, (wrap64 ((t304.size : Int) - 4)) = j_ := ⟨_, rfl⟩
               replace H : (if 0 ≤ (ji21) then (if (ji21) ≤ (t304.size : Int) then (if (t304.extract ((ji21) : Int).toNat t304.size).toList = ([46, 108, 111, 103] : List UInt8) then (some ((t304.toList == t305.toList) == (a0 == a1))) else (none)) else (none)) else (none)) = some r := by first | (rw [hji21] at H; exact H) | (simp only [hji21] at H ⊢; exact H)
               have hji21w : (IntKind.i64.wrap ((t304.size : Int) - 4)) = ji21 := (i64_w _).trans hji21
               by_cases c22 : 0 ≤ (ji21)
               · rw [if_pos c22] at H
                 have c22b0 := eq_true c22
                 have c22b1 : decide (0 ≤ (ji21)) = true := decide_eq_true c22
                 clear c22
                 by_cases c23 : (ji21) ≤ (t304.size : Int)
                 · rw [if_pos c23] at H
                   have c23b0 := eq_true c23
                   have c23b1 : decide ((ji21) ≤ (t304.size : Int)) = true := decide_eq_true c23
                   clear c23
                   by_cases c24 : (t304.extract ((ji21) : Int).toNat t304.size).toList = ([46, 108, 111, 103] : List UInt8)
                   · rw [if_pos c24] at H
                     have c24b0 : ((t304.extract ((ji21) : Int).toNat t304.size).toList == ([46, 108, 111, 103] : List UInt8)) = true := beq_iff_eq.mpr c24
                     have c24b1 : ((t304.extract ((ji21) : Int).toNat t304.size).toList != ([46, 108, 111, 103] : List UInt8)) = false := bne_eq_false_iff_eq.mpr c24
                     clear c24
                     obtain rfl := Option.some.inj H
                     go_wp2
                     go_ret
                     exact ⟨by first | rfl | (simp [errW_none, errW_some] <;> rfl) | (simp only [← hji21]; first | rfl | (simp [errW_none, errW_some] <;> rfl)) | (simp [*, errW_none, errW_some] <;> rfl) | (first | (simp (disch := omega) [w64_s, errW_none, errW_some]; done) | (simp (disch := omega) [w64_s, errW_none, errW_some] <;> rfl)), by repeat (first | (with_reducible first | exact HB.out | apply below_alloc | apply pw_below_drewN | apply below_drew1) | exact HB.out)⟩
                   · rw [if_neg c24] at H
                     exact absurd H (by simp)
                 · rw [if_neg c23] at H
                   exact absurd H (by simp)
               · rw [if_neg c22] at H
                 exact absurd H (by simp)
             · rw [if_neg c20] at H
               exact absurd H (by simp)
           · rw [if_neg c19] at H
             exact absurd H (by simp)
 · replace c4 := Bool.eq_false_iff.mpr c4
   subst c4
   have H1 : (none) = some r := by rw [if_neg (show ¬ (false = true) by decide)] at H; exact H
   clear H
   have H := H1
   clear H1
   exact absurd H (by simp)

/-- THE ONE PURE STATEMENT of incipitlaw13_WalNames: yours. -/
def incipitlaw13_WalNames.Pure : Prop := ∀ (a0 : Int) (a1 : Int), (Lit.int .i64 a0).wf = true → (Lit.int .i64 a1).wf = true → ∃ k, incipitlaw13_WalNames.f k a0 a1 = some true
theorem incipitlaw13_WalNames.walk (P : incipitlaw13_WalNames.Pure) (a0 : Int) (a1 : Int) (w : World) (w0 : (Lit.int .i64 a0).wf = true) (w1 : (Lit.int .i64 a1).wf = true) (HT : WalName.Tab w) :
 Calls Tryd.prog 3 #[.int .i64 a0, .int .i64 a1] w fun e w' => e = .returned (.bool true) ∧ Below w.heap.size w w' := by
 obtain ⟨k, h⟩ := P a0 a1 w0 w1
 refine (incipitlaw13_WalNames.calls k a0 a1 true w h ⟨HT⟩).mono ?_
 rintro e w' ⟨rfl, hd⟩
 exact ⟨rfl, hd⟩

end Go.Proofs.YtjhijcehcklipaaDoor.MWalNames
