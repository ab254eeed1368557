-- written by mp.py, a program of this session's over the kit's printer
import Derived.Test.YtiplbhjllkfemaaZMStx0
import Derived.Test.YtiplbhjllkfemaaZMStx5
import Derived.Test.YtiplbhjllkfemaaZMStx10
namespace Go.Proofs.Ytiplbhjllkfemaa.MSt
open Go.RowKit Go.Proofs.YtiplbhjllkfemaaW.PrintWords Go.Proofs.YtiplbhjllkfemaaW.PrintLast Go.Proofs.YtiplbhjllkfemaaW.PrintMore
attribute [local go_sem] max2_int min2_int max_two min_two max_three min_three max_four min_four   -- for this text's walks alone
set_option linter.unusedVariables false
set_option linter.unusedSimpArgs false

/-! ### utf_Begins: function 32 -/
mutual
def utf_Begins.j0 : Nat → ByteArray → Int → Int → Bool → Option (Bool)
 | 0, _, _, _, _ => none
 | k + 1, x0, x3, x4, x23 => if x23 = true then (some false) else (utf_Begins.l0 k x0 x3 x4 1)
def utf_Begins.l0 : Nat → ByteArray → Int → Int → Int → Option (Bool)
 | 0, _, _, _, _ => none
 | k + 1, x0, x3, x4, x5 => if x5 < (x0.size : Int) then (if 0 ≤ x5 then (if (Go.bits .and .u8 (bt x0 x5) 192) = 128 then (utf_Begins.l0 k x0 x3 (Go.bits .or .i64 (wrap64 (x4 * 64)) (wrap64 (Go.bits .and .u8 (bt x0 x5) 63))) (wrap64 (x5 + 1))) else (some false)) else (none)) else (if (x0.size : Int) < 2 then (some true) else (if 0 ≤ (wrap64 (6 * (wrap64 (x3 - (x0.size : Int))))) then ((utf_least.f x3).bind fun t288 => (if (wrap64 ((shl .i64 (wrap64 (x4 + 1)) (wrap64 (6 * (wrap64 (x3 - (x0.size : Int)))))) - 1)) ≥ t288 then (if (shl .i64 x4 (wrap64 (6 * (wrap64 (x3 - (x0.size : Int)))))) ≤ 1114111 then (if (shl .i64 x4 (wrap64 (6 * (wrap64 (x3 - (x0.size : Int)))))) < 55296 then (some true) else (some (decide ((wrap64 ((shl .i64 (wrap64 (x4 + 1)) (wrap64 (6 * (wrap64 (x3 - (x0.size : Int)))))) - 1)) > 57343)))) else (some false)) else (some false))) else (none)))
end
def utf_Begins.f (k : Nat) (a0 : ByteArray) : Option (Bool) := if a0.toList = ([] : List UInt8) then (some true) else (if 0 < (a0.size : Int) then ((utf_form.f k (bt a0 0)).bind fun bt286 => (if bt286.1 = 0 then (utf_Begins.j0 k a0 bt286.1 bt286.2 true) else (utf_Begins.j0 k a0 bt286.1 bt286.2 (decide ((a0.size : Int) ≥ bt286.1))))) else (none))
theorem utf_Begins.mono_l : ∀ k, (∀ y0 y1 y2 y3, LeO (utf_Begins.j0 k y0 y1 y2 y3) (utf_Begins.j0 (k + 1) y0 y1 y2 y3)) ∧ (∀ y0 y1 y2 y3, LeO (utf_Begins.l0 k y0 y1 y2 y3) (utf_Begins.l0 (k + 1) y0 y1 y2 y3))
 | 0 => ⟨fun _ _ _ _ r h => by simp [utf_Begins.j0] at h, fun _ _ _ _ r h => by simp [utf_Begins.l0] at h⟩
 | k + 1 => by
  obtain ⟨ih0, ih1⟩ := utf_Begins.mono_l k
  refine ⟨?_, ?_⟩
  · intro y0 y1 y2 y3
    unfold utf_Begins.j0
    repeat' first
    | (with_reducible exact ih0 _ _ _ _)
    | (with_reducible exact ih1 _ _ _ _)
    | (with_reducible exact utf_form.mono _ _)
    | (with_reducible exact LeO.refl _)
    | (with_reducible exact LeO.none _)
    | (with_reducible refine LeO.ite ?_ ?_)
    | (with_reducible refine LeO.bind ?_ (fun _ => ?_))
    | exact ih0 _ _ _ _
    | exact ih1 _ _ _ _
    | exact utf_form.mono _ _
    | exact LeO.none _
    | refine LeO.ite ?_ ?_
    | refine LeO.bind ?_ (fun _ => ?_)
  · intro y0 y1 y2 y3
    unfold utf_Begins.l0
    repeat' first
    | (with_reducible exact ih0 _ _ _ _)
    | (with_reducible exact ih1 _ _ _ _)
    | (with_reducible exact utf_form.mono _ _)
    | (with_reducible exact LeO.refl _)
    | (with_reducible exact LeO.none _)
    | (with_reducible refine LeO.ite ?_ ?_)
    | (with_reducible refine LeO.bind ?_ (fun _ => ?_))
    | exact ih0 _ _ _ _
    | exact ih1 _ _ _ _
    | exact utf_form.mono _ _
    | exact LeO.none _
    | refine LeO.ite ?_ ?_
    | refine LeO.bind ?_ (fun _ => ?_)
theorem utf_Begins.mono : ∀ a0 k, LeO (utf_Begins.f k a0) (utf_Begins.f (k + 1) a0) := by
 intro a0 k
 obtain ⟨ih0, ih1⟩ := utf_Begins.mono_l k
 unfold utf_Begins.f
 repeat' first
  | (with_reducible exact ih0 _ _ _ _)
  | (with_reducible exact ih1 _ _ _ _)
  | (with_reducible exact utf_form.mono _ _)
  | (with_reducible exact LeO.refl _)
  | (with_reducible exact LeO.none _)
  | (with_reducible refine LeO.ite ?_ ?_)
  | (with_reducible refine LeO.bind ?_ (fun _ => ?_))
  | exact ih0 _ _ _ _
  | exact ih1 _ _ _ _
  | exact utf_form.mono _ _
  | exact LeO.none _
  | refine LeO.ite ?_ ?_
  | refine LeO.bind ?_ (fun _ => ?_)
set_option maxHeartbeats 8000000 in
set_option maxRecDepth 100000 in
theorem utf_Begins.calls (k : Nat) (a0 : ByteArray) (r : Bool) (w : World) (h : utf_Begins.f k a0 = some r) :
 Calls Try.prog 32 #[.string a0] w fun e w' => e = .returned (.bool r) ∧ Drawn0 w w' := by
 have H : (if a0.toList = ([] : List UInt8) then (some true) else (if 0 < (a0.size : Int) then ((utf_form.f k (bt a0 0)).bind fun bt286 => (if bt286.1 = 0 then (utf_Begins.j0 k a0 bt286.1 bt286.2 true) else (utf_Begins.j0 k a0 bt286.1 bt286.2 (decide ((a0.size : Int) ≥ bt286.1))))) else (none))) = some r := h
 clear h
 by_cases c2 : a0.toList = ([] : List UInt8)
 · rw [if_pos c2] at H
   have c2b0 : (a0.toList == ([] : List UInt8)) = true := beq_iff_eq.mpr c2
   have c2b1 : (a0.toList != ([] : List UInt8)) = false := bne_eq_false_iff_eq.mpr c2
   clear c2
   obtain rfl := Option.some.inj H
   go_enter Try.func32, Try.ntmps32
   go_wp2
   repeat (go_quiet (fail); try go_wp2)
   go_ret
   exact ⟨by first | rfl | (simp; done) | (simp [*]; done), by repeat (first | exact Drawn0.refl _ | apply Drawn0.step)⟩
 · rw [if_neg c2] at H
   have c2b0 : (a0.toList == ([] : List UInt8)) = false := beq_eq_false_iff_ne.mpr c2
   have c2b1 : (a0.toList != ([] : List UInt8)) = true := bne_iff_ne.mpr c2
   by_cases c3 : 0 < (a0.size : Int)
   · rw [if_pos c3] at H
     have c3b0 : decide (0 < (a0.size : Int)) = true := decide_eq_true c3
     have c3b1 : decide (0 < a0.size) = true := decide_eq_true (by omega)
     clear c3
     replace H := Option.bind_eq_some_iff.mp H
     obtain ⟨⟨t286, t287⟩, A50, H⟩ := H
     replace H : (if t286 = 0 then (utf_Begins.j0 k a0 t286 t287 true) else (utf_Begins.j0 k a0 t286 t287 (decide ((a0.size : Int) ≥ t286)))) = some r := H
     have A5 := Aside0.mk A50
     clear A50
     have HC6 := Aside0.mk H
     clear H
     have p4 : 0 ≤ (0 : Int) := (by omega)
     have q4 : 0 < a0.size := (by have : (0 : Int) < (a0.size : Int) := of_decide_eq_true (by first | (with_reducible assumption) | assumption); omega)
     have hx4 : ∀ h : 0 < a0.size, ((a0[0]'h).toNat : Int) = bt a0 0 := bt_at a0 0
     clear p4
     have qi4 : (0 < (a0.size : Int)) = True := eq_true (of_decide_eq_true (by first | (with_reducible assumption) | assumption))
     replace q4 := eq_true q4
     go_enter Try.func32, Try.ntmps32
     go_upto_region 4 with (first | (go_at_call 47; (with_reducible refine (utf_form.calls k (bt a0 0) t286 t287 _ A5.out).mono ?_); rintro e w' ⟨rfl, ⟨nd, rfl⟩⟩; (try first | exact ⟨rfl, _, World.drewN_drewN _ _ _⟩ | exact ⟨rfl, _, Eq.trans (World.drewN_drewN _ _ _) (congrArg (World.drewN _) (Nat.add_assoc _ _ _))⟩)))
     repeat (go_quiet (first | (go_at_call 47; (with_reducible refine (utf_form.calls k (bt a0 0) t286 t287 _ A5.out).mono ?_); rintro e w' ⟨rfl, ⟨nd, rfl⟩⟩; (try first | exact ⟨rfl, _, World.drewN_drewN _ _ _⟩ | exact ⟨rfl, _, Eq.trans (World.drewN_drewN _ _ _) (congrArg (World.drewN _) (Nat.add_assoc _ _ _))⟩))); go_upto_region 4 with (first | (go_at_call 47; (with_reducible refine (utf_form.calls k (bt a0 0) t286 t287 _ A5.out).mono ?_); rintro e w' ⟨rfl, ⟨nd, rfl⟩⟩; (try first | exact ⟨rfl, _, World.drewN_drewN _ _ _⟩ | exact ⟨rfl, _, Eq.trans (World.drewN_drewN _ _ _) (congrArg (World.drewN _) (Nat.add_assoc _ _ _))⟩))))
     (try simp only [Act.put, List.setIfInBounds_toArray, List.set_cons_zero, List.set_cons_succ])
     go_cut [23] (fun v23 wc => ∃ (kq : Nat) (x23_5 : Bool), v23 = .bool x23_5 ∧ Aside0 (utf_Begins.j0 kq a0 t286 t287 x23_5 = some r) ∧ Aside0 (kq ≤ k) ∧ Drawn0 w wc)
     case first =>
      have H := HC6.out
      clear HC6
      by_cases c7 : t286 = 0
      · rw [if_pos c7] at H
        have c7b0 : (t286 == 0) = true := beq_iff_eq.mpr c7
        have c7b1 : (t286 != 0) = false := bne_eq_false_iff_eq.mpr c7
        clear c7
        (first | rw [c7b0] | (simp only [i64_w, i32_w]; rw [c7b0]) | skip)
        have H' := Aside0.mk H
        clear H
        go_wp2
        repeat (go_quiet (fail); try go_wp2)
        go_meet
        case rel => exact ⟨_, (true), (by first | rfl | (simp; done) | (simp [*]; done)), H', ⟨by first | omega | exact Nat.le_refl _⟩, by repeat (first | exact Drawn0.refl _ | apply Drawn0.step)⟩
      · rw [if_neg c7] at H
        have c7b0 : (t286 == 0) = false := beq_eq_false_iff_ne.mpr c7
        have c7b1 : (t286 != 0) = true := bne_iff_ne.mpr c7
        (first | rw [c7b0] | (simp only [i64_w, i32_w]; rw [c7b0]) | skip)
        have H' := Aside0.mk H
        clear H
        go_wp2
        repeat (go_quiet (fail); try go_wp2)
        go_meet
        case rel => exact ⟨_, (decide ((a0.size : Int) ≥ t286)), (by first | rfl | (simp; done) | (simp [*]; done)), H', ⟨by first | omega | exact Nat.le_refl _⟩, by repeat (first | exact Drawn0.refl _ | apply Drawn0.step)⟩
     case rest =>
      clear HC6
      (try clear c2); (try clear c2b0); (try clear c2b1); (try clear p2); (try clear c3); (try clear c3b0); (try clear c3b1); (try clear p4); (try clear q4); (try clear hx4); (try clear qi4); (try clear c7); (try clear c7b0); (try clear c7b1); (try clear p4); (try clear q4)
      obtain ⟨kq, x23_5, rfl, HA, HJ5, ⟨mc5, rfl⟩⟩ := hcut
      cases kq with
      | zero => exact absurd HA.out (by simp [utf_Begins.j0])
      | succ kj5 =>
       have H := HA.out
       clear HA
       simp only [utf_Begins.j0] at H
       by_cases c8 : x23_5 = true
       · subst c8
         have H1 : (some false) = some r := by rw [if_pos rfl] at H; exact H
         clear H
         have H := H1
         clear H1
         obtain rfl := Option.some.inj H
         go_wp2
         repeat (go_quiet (fail); try go_wp2)
         go_ret
         exact ⟨by first | rfl | (simp; done) | (simp [*]; done), by repeat (first | exact Drawn0.refl _ | apply Drawn0.step)⟩
       · replace c8 := Bool.eq_false_iff.mpr c8
         subst c8
         have H1 : (utf_Begins.l0 kj5 a0 t286 t287 1) = some r := by rw [if_neg (show ¬ (false = true) by decide)] at H; exact H
         clear H
         have H := H1
         clear H1
         have H' := Aside0.mk H
         clear H
         go_wp2
         repeat (go_quiet (fail); try go_wp2)
         try simp only [Act.put, List.setIfInBounds_toArray, List.set_cons_succ, List.set_cons_zero]
         go_loopg [4, 5] kj5 (fun kq v4 v5 w' => ∃ (x4_2 : Int) (x5_2 : Int), v4 = .int .i64 x4_2 ∧ v5 = .int .i64 x5_2 ∧ Aside0 (utf_Begins.l0 kq a0 t286 x4_2 x5_2 = some r) ∧ Aside0 (kq ≤ kj5) ∧ Drawn0 w w')
         case atStart => exact ⟨(t287), (1), (by first | rfl | (simp; done) | (simp [*]; done)), (by first | rfl | (simp; done) | (simp [*]; done)), H', ⟨Nat.le_refl _⟩, by repeat (first | exact Drawn0.refl _ | apply Drawn0.step)⟩
         case round =>
          clear H'
          (try clear c2); (try clear c2b0); (try clear c2b1); (try clear p2); (try clear c3); (try clear c3b0); (try clear c3b1); (try clear p4); (try clear q4); (try clear hx4); (try clear qi4); (try clear c5); (try clear c7); (try clear c7b0); (try clear c7b1); (try clear c8); (try clear p2); (try clear p4); (try clear q4)
          obtain ⟨x4_2, x5_2, rfl, rfl, HA, HK2, ⟨m2, rfl⟩⟩ := hrel
          cases gk with
          | zero => exact absurd HA.out (by simp [utf_Begins.l0])
          | succ k2 =>
           have H := HA.out
           clear HA
           simp only [utf_Begins.l0] at H
           by_cases c9 : x5_2 < (a0.size : Int)
           · rw [if_pos c9] at H
             have c9b0 : decide (x5_2 < (a0.size : Int)) = true := decide_eq_true c9
             clear c9
             by_cases c10 : 0 ≤ x5_2
             · rw [if_pos c10] at H
               have c10b0 : decide (0 ≤ x5_2) = true := decide_eq_true c10
               clear c10
               by_cases c12 : (Go.bits .and .u8 (bt a0 x5_2) 192) = 128
               · rw [if_pos c12] at H
                 have c12b0 : ((Go.bits .and .u8 (bt a0 x5_2) 192) == 128) = true := beq_iff_eq.mpr c12
                 have c12b1 : ((Go.bits .and .u8 (bt a0 x5_2) 192) != 128) = false := bne_eq_false_iff_eq.mpr c12
                 clear c12
                 have H' := Aside0.mk H
                 clear H
                 have p11 : 0 ≤ (x5_2 : Int) := of_decide_eq_true (by first | (with_reducible assumption) | assumption)
                 have q11 : x5_2 < (a0.size : Int) := of_decide_eq_true (by first | (with_reducible assumption) | assumption)
                 have hx11 := bt_at a0 x5_2
                 replace p11 := eq_true p11
                 replace q11 := eq_true q11
                 have p13 : 0 ≤ (x5_2 : Int) := of_decide_eq_true (by first | (with_reducible assumption) | assumption)
                 have q13 : x5_2 < (a0.size : Int) := of_decide_eq_true (by first | (with_reducible assumption) | assumption)
                 have hx13 := bt_at a0 x5_2
                 replace p13 := eq_true p13
                 replace q13 := eq_true q13
                 go_wp2
                 repeat (go_quiet (fail); try go_wp2)
                 go_roundg k2
                 case measure => have := HJ5.out; have := HK2.out; omega
                 case rel => exact ⟨(Go.bits .or .i64 (wrap64 (x4_2 * 64)) (wrap64 (Go.bits .and .u8 (bt a0 x5_2) 63))), (wrap64 (x5_2 + 1)), (by first | rfl | (simp; done) | (simp [*]; done)), (by first | rfl | (simp; done) | (simp [*]; done)), H', ⟨by have := HJ5.out; have := HK2.out; omega⟩, by repeat (first | exact Drawn0.refl _ | apply Drawn0.step)⟩
               · rw [if_neg c12] at H
                 have c12b0 : ((Go.bits .and .u8 (bt a0 x5_2) 192) == 128) = false := beq_eq_false_iff_ne.mpr c12
                 have c12b1 : ((Go.bits .and .u8 (bt a0 x5_2) 192) != 128) = true := bne_iff_ne.mpr c12
                 obtain rfl := Option.some.inj H
                 have p11 : 0 ≤ (x5_2 : Int) := of_decide_eq_true (by first | (with_reducible assumption) | assumption)
                 have q11 : x5_2 < (a0.size : Int) := of_decide_eq_true (by first | (with_reducible assumption) | assumption)
                 have hx11 := bt_at a0 x5_2
                 replace p11 := eq_true p11
                 replace q11 := eq_true q11
                 go_wp2
                 repeat (go_quiet (fail); try go_wp2)
                 go_ret
                 exact ⟨by first | rfl | (simp; done) | (simp [*]; done), by repeat (first | exact Drawn0.refl _ | apply Drawn0.step)⟩
             · rw [if_neg c10] at H
               exact absurd H (by simp)
           · rw [if_neg c9] at H
             have c9b0 : decide (x5_2 < (a0.size : Int)) = false := decide_eq_false c9
             clear c9
             by_cases c14 : (a0.size : Int) < 2
             · rw [if_pos c14] at H
               have c14b0 : decide ((a0.size : Int) < 2) = true := decide_eq_true c14
               have c14b1 : decide (a0.size < 2) = true := decide_eq_true (by omega)
               clear c14
               obtain rfl := Option.some.inj H
               go_wp2
               repeat (go_quiet (fail); try go_wp2)
               go_ret
               exact ⟨by first | rfl | (simp; done) | (simp [*]; done), by repeat (first | exact Drawn0.refl _ | apply Drawn0.step)⟩
             · rw [if_neg c14] at H
               have c14b0 : decide ((a0.size : Int) < 2) = false := decide_eq_false c14
               have c14b1 : decide (a0.size < 2) = false := decide_eq_false (by omega)
               clear c14
               obtain ⟨ji15, hji15⟩ : ∃ j_ : Int, (wrap64 (6 * (wrap64 (t286 - (a0.size : Int))))) = j_ := ⟨_, rfl⟩
               replace H : (if 0 ≤ (ji15) then ((utf_least.f t286).bind fun t288 => (if (wrap64 ((shl .i64 (wrap64 (x4_2 + 1)) (ji15)) - 1)) ≥ t288 then (if (shl .i64 x4_2 (ji15)) ≤ 1114111 then (if (shl .i64 x4_2 (ji15)) < 55296 then (some true) else (some (decide ((wrap64 ((shl .i64 (wrap64 (x4_2 + 1)) (ji15)) - 1)) > 57343)))) else (some false)) else (some false))) else (none)) = some r := by first | (rw [hji15] at H; exact H) | (simp only [hji15] at H ⊢; exact H)
               have hji15w : (IntKind.i64.wrap (6 * (wrap64 (t286 - (a0.size : Int))))) = ji15 := (i64_w _).trans hji15
               by_cases c16 : 0 ≤ (ji15)
               · rw [if_pos c16] at H
                 have c16b0 := eq_true c16
                 have c16b1 : decide (0 ≤ (ji15)) = true := decide_eq_true c16
                 clear c16
                 obtain ⟨ji17, hji17⟩ : ∃ j_ : Int, (shl .i64 x4_2 (ji15)) = j_ := ⟨_, rfl⟩
                 replace H : ((utf_least.f t286).bind fun t288 => (if (wrap64 ((shl .i64 (wrap64 (x4_2 + 1)) (ji15)) - 1)) ≥ t288 then (if (ji17) ≤ 1114111 then (if (ji17) < 55296 then (some true) else (some (decide ((wrap64 ((shl .i64 (wrap64 (x4_2 + 1)) (ji15)) - 1)) > 57343)))) else (some false)) else (some false))) = some r := by first | (rw [hji17] at H; exact H) | (simp only [hji17] at H ⊢; exact H)
                 have hji17_ : (IntKind.i64.wrap (x4_2 * 2 ^ min (ji15).toNat 64)) = ji17 := hji17
                 have hji17z : (ji15) ≤ 64 → (IntKind.i64.wrap (x4_2 * 2 ^ (ji15).toNat)) = ji17 := shl_small hji17
                 have hji17y : (wrap64 (x4_2 * 2 ^ min (ji15).toNat 64)) = ji17 := (i64_w _).symm.trans hji17_
                 have hji17x : (ji15) ≤ 64 → (wrap64 (x4_2 * 2 ^ (ji15).toNat)) = ji17 := fun h_ => (i64_w _).symm.trans (hji17z h_)
                 have c18b0 := eq_true (of_decide_eq_true (by first | (with_reducible assumption) | assumption) : 0 ≤ (ji15))
                 obtain ⟨ji19, hji19⟩ : ∃ j_ : Int, (shl .i64 (wrap64 (x4_2 + 1)) (ji15)) = j_ := ⟨_, rfl⟩
                 replace H : ((utf_least.f t286).bind fun t288 => (if (wrap64 ((ji19) - 1)) ≥ t288 then (if (ji17) ≤ 1114111 then (if (ji17) < 55296 then (some true) else (some (decide ((wrap64 ((ji19) - 1)) > 57343)))) else (some false)) else (some false))) = some r := by first | (rw [hji19] at H; exact H) | (simp only [hji19] at H ⊢; exact H)
                 have hji19_ : (IntKind.i64.wrap ((wrap64 (x4_2 + 1)) * 2 ^ min (ji15).toNat 64)) = ji19 := hji19
                 have hji19z : (ji15) ≤ 64 → (IntKind.i64.wrap ((wrap64 (x4_2 + 1)) * 2 ^ (ji15).toNat)) = ji19 := shl_small hji19
                 have hji19y : (wrap64 ((wrap64 (x4_2 + 1)) * 2 ^ min (ji15).toNat 64)) = ji19 := (i64_w _).symm.trans hji19_
                 have hji19x : (ji15) ≤ 64 → (wrap64 ((wrap64 (x4_2 + 1)) * 2 ^ (ji15).toNat)) = ji19 := fun h_ => (i64_w _).symm.trans (hji19z h_)
                 replace H := Option.bind_eq_some_iff.mp H
                 obtain ⟨t288, A200, H⟩ := H
                 replace H : (if (wrap64 ((ji19) - 1)) ≥ t288 then (if (ji17) ≤ 1114111 then (if (ji17) < 55296 then (some true) else (some (decide ((wrap64 ((ji19) - 1)) > 57343)))) else (some false)) else (some false)) = some r := H
                 have A20 := Aside0.mk A200
                 clear A200
                 by_cases c21 : (wrap64 ((ji19) - 1)) ≥ t288
                 · rw [if_pos c21] at H
                   have c21b0 : decide (t288 ≤ (wrap64 ((ji19) - 1))) = true := decide_eq_true c21
                   clear c21
                   by_cases c22 : (ji17) ≤ 1114111
                   · rw [if_pos c22] at H
                     have c22b0 : decide ((ji17) ≤ 1114111) = true := decide_eq_true c22
                     clear c22
                     by_cases c23 : (ji17) < 55296
                     · rw [if_pos c23] at H
                       have c23b0 : decide ((ji17) < 55296) = true := decide_eq_true c23
                       clear c23
                       obtain rfl := Option.some.inj H
                       go_wp2_with (first | (go_at_call 48; (with_reducible refine (utf_least.calls t286 t288 _ A20.out).mono ?_); rintro e w' ⟨rfl, ⟨nd, rfl⟩⟩; (try first | exact ⟨rfl, _, World.drewN_drewN _ _ _⟩ | exact ⟨rfl, _, Eq.trans (World.drewN_drewN _ _ _) (congrArg (World.drewN _) (Nat.add_assoc _ _ _))⟩)))
                       repeat (go_quiet (first | (go_at_call 48; (with_reducible refine (utf_least.calls t286 t288 _ A20.out).mono ?_); rintro e w' ⟨rfl, ⟨nd, rfl⟩⟩; (try first | exact ⟨rfl, _, World.drewN_drewN _ _ _⟩ | exact ⟨rfl, _, Eq.trans (World.drewN_drewN _ _ _) (congrArg (World.drewN _) (Nat.add_assoc _ _ _))⟩))); try go_wp2_with (first | (go_at_call 48; (with_reducible refine (utf_least.calls t286 t288 _ A20.out).mono ?_); rintro e w' ⟨rfl, ⟨nd, rfl⟩⟩; (try first | exact ⟨rfl, _, World.drewN_drewN _ _ _⟩ | exact ⟨rfl, _, Eq.trans (World.drewN_drewN _ _ _) (congrArg (World.drewN _) (Nat.add_assoc _ _ _))⟩))))
                       go_ret
                       exact ⟨by first | rfl | (simp; done) | (simp only [← hji15, ← hji17, ← hji19] <;> (first | rfl | simp)) | (simp [*]; done), by repeat (first | exact Drawn0.refl _ | apply Drawn0.step)⟩
                     · rw [if_neg c23] at H
                       have c23b0 : decide ((ji17) < 55296) = false := decide_eq_false c23
                       clear c23
                       obtain rfl := Option.some.inj H
                       go_wp2_with (first | (go_at_call 48; (with_reducible refine (utf_least.calls t286 t288 _ A20.out).mono ?_); rintro e w' ⟨rfl, ⟨nd, rfl⟩⟩; (try first | exact ⟨rfl, _, World.drewN_drewN _ _ _⟩ | exact ⟨rfl, _, Eq.trans (World.drewN_drewN _ _ _) (congrArg (World.drewN _) (Nat.add_assoc _ _ _))⟩)))
                       repeat (go_quiet (first | (go_at_call 48; (with_reducible refine (utf_least.calls t286 t288 _ A20.out).mono ?_); rintro e w' ⟨rfl, ⟨nd, rfl⟩⟩; (try first | exact ⟨rfl, _, World.drewN_drewN _ _ _⟩ | exact ⟨rfl, _, Eq.trans (World.drewN_drewN _ _ _) (congrArg (World.drewN _) (Nat.add_assoc _ _ _))⟩))); try go_wp2_with (first | (go_at_call 48; (with_reducible refine (utf_least.calls t286 t288 _ A20.out).mono ?_); rintro e w' ⟨rfl, ⟨nd, rfl⟩⟩; (try first | exact ⟨rfl, _, World.drewN_drewN _ _ _⟩ | exact ⟨rfl, _, Eq.trans (World.drewN_drewN _ _ _) (congrArg (World.drewN _) (Nat.add_assoc _ _ _))⟩))))
                       go_ret
                       exact ⟨by first | rfl | (simp; done) | (simp only [← hji15, ← hji17, ← hji19] <;> (first | rfl | simp)) | (simp [*]; done), by repeat (first | exact Drawn0.refl _ | apply Drawn0.step)⟩
                   · rw [if_neg c22] at H
                     have c22b0 : decide ((ji17) ≤ 1114111) = false := decide_eq_false c22
                     clear c22
                     obtain rfl := Option.some.inj H
                     go_wp2_with (first | (go_at_call 48; (with_reducible refine (utf_least.calls t286 t288 _ A20.out).mono ?_); rintro e w' ⟨rfl, ⟨nd, rfl⟩⟩; (try first | exact ⟨rfl, _, World.drewN_drewN _ _ _⟩ | exact ⟨rfl, _, Eq.trans (World.drewN_drewN _ _ _) (congrArg (World.drewN _) (Nat.add_assoc _ _ _))⟩)))
                     repeat (go_quiet (first | (go_at_call 48; (with_reducible refine (utf_least.calls t286 t288 _ A20.out).mono ?_); rintro e w' ⟨rfl, ⟨nd, rfl⟩⟩; (try first | exact ⟨rfl, _, World.drewN_drewN _ _ _⟩ | exact ⟨rfl, _, Eq.trans (World.drewN_drewN _ _ _) (congrArg (World.drewN _) (Nat.add_assoc _ _ _))⟩))); try go_wp2_with (first | (go_at_call 48; (with_reducible refine (utf_least.calls t286 t288 _ A20.out).mono ?_); rintro e w' ⟨rfl, ⟨nd, rfl⟩⟩; (try first | exact ⟨rfl, _, World.drewN_drewN _ _ _⟩ | exact ⟨rfl, _, Eq.trans (World.drewN_drewN _ _ _) (congrArg (World.drewN _) (Nat.add_assoc _ _ _))⟩))))
                     go_ret
                     exact ⟨by first | rfl | (simp; done) | (simp only [← hji15, ← hji17, ← hji19] <;> (first | rfl | simp)) | (simp [*]; done), by repeat (first | exact Drawn0.refl _ | apply Drawn0.step)⟩
                 · rw [if_neg c21] at H
                   have c21b0 : decide (t288 ≤ (wrap64 ((ji19) - 1))) = false := decide_eq_false c21
                   clear c21
                   obtain rfl := Option.some.inj H
                   go_wp2_with (first | (go_at_call 48; (with_reducible refine (utf_least.calls t286 t288 _ A20.out).mono ?_); rintro e w' ⟨rfl, ⟨nd, rfl⟩⟩; (try first | exact ⟨rfl, _, World.drewN_drewN _ _ _⟩ | exact ⟨rfl, _, Eq.trans (World.drewN_drewN _ _ _) (congrArg (World.drewN _) (Nat.add_assoc _ _ _))⟩)))
                   repeat (go_quiet (first | (go_at_call 48; (with_reducible refine (utf_least.calls t286 t288 _ A20.out).mono ?_); rintro e w' ⟨rfl, ⟨nd, rfl⟩⟩; (try first | exact ⟨rfl, _, World.drewN_drewN _ _ _⟩ | exact ⟨rfl, _, Eq.trans (World.drewN_drewN _ _ _) (congrArg (World.drewN _) (Nat.add_assoc _ _ _))⟩))); try go_wp2_with (first | (go_at_call 48; (with_reducible refine (utf_least.calls t286 t288 _ A20.out).mono ?_); rintro e w' ⟨rfl, ⟨nd, rfl⟩⟩; (try first | exact ⟨rfl, _, World.drewN_drewN _ _ _⟩ | exact ⟨rfl, _, Eq.trans (World.drewN_drewN _ _ _) (congrArg (World.drewN _) (Nat.add_assoc _ _ _))⟩))))
                   go_ret
                   exact ⟨by first | rfl | (simp; done) | (simp only [← hji15, ← hji17, ← hji19] <;> (first | rfl | simp)) | (simp [*]; done), by repeat (first | exact Drawn0.refl _ | apply Drawn0.step)⟩
               · rw [if_neg c16] at H
                 exact absurd H (by simp)
   · rw [if_neg c3] at H
     exact absurd H (by simp)

/-! ### hangul_Split: function 68 -/
def hangul_Split.j0 : Nat → Int → Bool → Option (List Int)
 | 0, _, _ => none
 | k + 1, x0, x10 => if x10 = true then (some ([] : List Int)) else ((some (([wrap64 (4352 + (wrap64 (Int.tdiv (wrap64 (x0 - 44032)) 588))), wrap64 (4449 + (Int.tmod (wrap64 (Int.tdiv (wrap64 (x0 - 44032)) 28)) 21))] : List Int) : List Int)).bind fun y289 => (if (Int.tmod (wrap64 (x0 - 44032)) 28) > 0 then (if y289.length < 17592186044416 then (some (y289 ++ [wrap64 (4519 + (Int.tmod (wrap64 (x0 - 44032)) 28))])) else (none)) else (some y289)))
def hangul_Split.f (k : Nat) (a0 : Int) : Option (List Int) := if a0 < 44032 then (hangul_Split.j0 k a0 true) else (hangul_Split.j0 k a0 (decide (a0 ≥ 55204)))
theorem hangul_Split.mono_l : ∀ k, (∀ y0 y1, LeO (hangul_Split.j0 k y0 y1) (hangul_Split.j0 (k + 1) y0 y1))
 | 0 => fun _ _ r h => by simp [hangul_Split.j0] at h
 | k + 1 => by
  have ih0 := hangul_Split.mono_l k
  · intro y0 y1
    unfold hangul_Split.j0
    repeat' first
    | (with_reducible exact ih0 _ _)
    | (with_reducible exact LeO.refl _)
    | (with_reducible exact LeO.none _)
    | (with_reducible refine LeO.ite ?_ ?_)
    | (with_reducible refine LeO.bind ?_ (fun _ => ?_))
    | exact ih0 _ _
    | exact LeO.none _
    | refine LeO.ite ?_ ?_
    | refine LeO.bind ?_ (fun _ => ?_)
theorem hangul_Split.mono : ∀ a0 k, LeO (hangul_Split.f k a0) (hangul_Split.f (k + 1) a0) := by
 intro a0 k
 have ih0 := hangul_Split.mono_l k
 unfold hangul_Split.f
 repeat' first
  | (with_reducible exact ih0 _ _)
  | (with_reducible exact LeO.refl _)
  | (with_reducible exact LeO.none _)
  | (with_reducible refine LeO.ite ?_ ?_)
  | (with_reducible refine LeO.bind ?_ (fun _ => ?_))
  | exact ih0 _ _
  | exact LeO.none _
  | refine LeO.ite ?_ ?_
  | refine LeO.bind ?_ (fun _ => ?_)
set_option maxHeartbeats 8000000 in
set_option maxRecDepth 100000 in
theorem hangul_Split.calls (k : Nat) (a0 : Int) (r : List Int) (w : World) (h : hangul_Split.f k a0 = some r) :
 Calls Try.prog 68 #[.int .i64 a0] w fun e w' => ∃ v0_ : Value, e = .returned (v0_) ∧ Kd.R (Kd.int .i64) 3 w' w.heap.size (fun _ => True) v0_ r ∧ Below w.heap.size w w' := by
 have HB := Aside0.mk (Below.refl w.heap.size w)
 have H : (if a0 < 44032 then (hangul_Split.j0 k a0 true) else (hangul_Split.j0 k a0 (decide (a0 ≥ 55204)))) = some r := h
 clear h
 have HC2 := Aside0.mk H
 clear H
 go_enter Try.func68, Try.ntmps68
 go_upto_region 1 with (fail)
 go_cut [10] (fun v10 wc => ∃ (kq : Nat) (x10_1 : Bool), v10 = .bool x10_1 ∧ Aside0 (hangul_Split.j0 kq a0 x10_1 = some r) ∧ Aside0 (kq ≤ k) ∧ Aside0 (Below w.heap.size w wc))
 case first =>
  have H := HC2.out
  clear HC2
  by_cases c3 : a0 < 44032
  · rw [if_pos c3] at H
    have c3b0 : decide (a0 < 44032) = true := decide_eq_true c3
    clear c3
    (first | rw [c3b0] | (simp only [i64_w, i32_w]; rw [c3b0]) | skip)
    have H' := Aside0.mk H
    clear H
    go_wp2
    go_meet
    case rel => exact ⟨_, (true), (by first | rfl | (simp; done) | (simp [*]; done)), H', ⟨by first | omega | exact Nat.le_refl _⟩, ⟨by repeat (first | (with_reducible first | exact HB.out | apply below_alloc | apply pw_below_drewN | apply below_drew1) | exact HB.out)⟩⟩
  · rw [if_neg c3] at H
    have c3b0 : decide (a0 < 44032) = false := decide_eq_false c3
    clear c3
    (first | rw [c3b0] | (simp only [i64_w, i32_w]; rw [c3b0]) | skip)
    have H' := Aside0.mk H
    clear H
    go_wp2
    go_meet
    case rel => exact ⟨_, (decide (a0 ≥ 55204)), (by first | rfl | (simp; done) | (simp [*]; done)), H', ⟨by first | omega | exact Nat.le_refl _⟩, ⟨by repeat (first | (with_reducible first | exact HB.out | apply below_alloc | apply pw_below_drewN | apply below_drew1) | exact HB.out)⟩⟩
 case rest =>
  clear HC2
  (try clear p2); (try clear c3); (try clear c3b0)
  obtain ⟨kq, x10_1, rfl, HA, HJ1, HB⟩ := hcut
  cases kq with
  | zero => exact absurd HA.out (by simp [hangul_Split.j0])
  | succ kj1 =>
   have H := HA.out
   clear HA
   simp only [hangul_Split.j0] at H
   by_cases c4 : x10_1 = true
   · subst c4
     have H1 : (some ([] : List Int)) = some r := by rw [if_pos rfl] at H; exact H
     clear H
     have H := H1
     clear H1
     obtain rfl := Option.some.inj H
     go_wp2
     go_ret
     exact ⟨_, by first | rfl | (simp [errW_none, errW_some] <;> rfl) | (simp [*, errW_none, errW_some] <;> rfl), by first | exact Kd.R_nil _ _ _ _ _ | exact Kd.N_nil _ _ _ _ _ | exact Kd.V_nil _ _ _ _ _ | exact Kd.Q_nil _ _ _ _ _ | exact Kd.S_nil _ _ _ _ _, by repeat (first | (with_reducible first | exact HB.out | apply below_alloc | apply pw_below_drewN | apply below_drew1) | exact HB.out)⟩
   · replace c4 := Bool.eq_false_iff.mpr c4
     subst c4
     have H1 : ((some (([wrap64 (4352 + (wrap64 (Int.tdiv (wrap64 (a0 - 44032)) 588))), wrap64 (4449 + (Int.tmod (wrap64 (Int.tdiv (wrap64 (a0 - 44032)) 28)) 21))] : List Int) : List Int)).bind fun y289 => (if (Int.tmod (wrap64 (a0 - 44032)) 28) > 0 then (if y289.length < 17592186044416 then (some (y289 ++ [wrap64 (4519 + (Int.tmod (wrap64 (a0 - 44032)) 28))])) else (none)) else (some y289))) = some r := by rw [if_neg (show ¬ (false = true) by decide)] at H; exact H
     clear H
     have H := H1
     clear H1
     obtain ⟨y289, hy289⟩ : ∃ y_ : List Int, y_ = (([wrap64 (4352 + (wrap64 (Int.tdiv (wrap64 (a0 - 44032)) 588))), wrap64 (4449 + (Int.tmod (wrap64 (Int.tdiv (wrap64 (a0 - 44032)) 28)) 21))] : List Int)) := ⟨_, rfl⟩
     replace H : (if (Int.tmod (wrap64 (a0 - 44032)) 28) > 0 then (if y289.length < 17592186044416 then (some (y289 ++ [wrap64 (4519 + (Int.tmod (wrap64 (a0 - 44032)) 28))])) else (none)) else (some y289)) = some r := by first | (rw [hy289]; with_reducible exact H) | (have H2_ := (Option.bind_some _ _).symm.trans H; rw [hy289]; with_reducible exact H2_) | (have H2_ := (Option.bind_some _ _).symm.trans H; with_reducible exact H2_) | with_reducible exact H | (rw [hy289]; exact H) | exact H
     have Ny289 := Aside0.mk hy289
     clear hy289
     by_cases c5 : (Int.tmod (wrap64 (a0 - 44032)) 28) > 0
     · rw [if_pos c5] at H
       have c5b0 : decide (0 < (Int.tmod (wrap64 (a0 - 44032)) 28)) = true := decide_eq_true c5
       clear c5
       by_cases c6 : y289.length < 17592186044416
       · rw [if_pos c6] at H
         have LMc6 := Aside0.mk c6
         clear c6
         obtain ⟨y292, hy292⟩ : ∃ y_ : List Int, y_ = (y289 ++ [wrap64 (4519 + (Int.tmod (wrap64 (a0 - 44032)) 28))]) := ⟨_, rfl⟩
         replace H : (some y292) = some r := by first | (rw [hy292]; with_reducible exact H) | (have H2_ := (Option.bind_some _ _).symm.trans H; rw [hy292]; with_reducible exact H2_) | (have H2_ := (Option.bind_some _ _).symm.trans H; with_reducible exact H2_) | with_reducible exact H | (rw [hy292]; exact H) | exact H
         have Ny292 := Aside0.mk hy292
         clear hy292
         obtain rfl := Option.some.inj H
         go_wp2_with (first | ((with_reducible refine gate_dst (N := 20) rfl ?_); refine Kd.R_lit (Kd.int .i64) _ 3 ?hg (N := 20) ?hd (xs := ([wrap64 (4352 + (wrap64 (Int.tdiv (wrap64 (a0 - 44032)) 588))), wrap64 (4449 + (Int.tmod (wrap64 (Int.tdiv (wrap64 (a0 - 44032)) 28)) 21))] : List Int)) (inner := [.int .i64 (wrap64 (4352 + (wrap64 (Int.tdiv (wrap64 (a0 - 44032)) 588)))), .int .i64 (wrap64 (4449 + (Int.tmod (wrap64 (Int.tdiv (wrap64 (a0 - 44032)) 28)) 21)))]) (ok := fun _ => True) (okp := fun _ => True) ?hr ?hp (fun _ hk => hk) trivial (Below.refl _ _) (Nat.le_refl _) (by simp) ?_; (case hd => rfl); (case hg => rfl); (case hr => first | (go_simp; done) | (go_simp; rfl)); (case hp => exact (Reps.one (show Kd.M (Kd.int .i64) _ _ _ (wrap64 (4352 + (wrap64 (Int.tdiv (wrap64 (a0 - 44032)) 588)))) [.int .i64 (wrap64 (4352 + (wrap64 (Int.tdiv (wrap64 (a0 - 44032)) 588))))] from rfl) (Reps.one (show Kd.M (Kd.int .i64) _ _ _ (wrap64 (4449 + (Int.tmod (wrap64 (Int.tdiv (wrap64 (a0 - 44032)) 28)) 21))) [.int .i64 (wrap64 (4449 + (Int.tmod (wrap64 (Int.tdiv (wrap64 (a0 - 44032)) 28)) 21)))] from rfl) (Reps.none _ _)))); intro v290 w7 ho8 hb hg_ hnew_; clear hg_ hnew_; (first | rw [← Ny289.out] at ho8 | (simp only [Int.reduceToNat] at ho8; rw [← Ny289.out] at ho8)); have n0_ := Aside0.mk (Kd.R_lower ho8 (below_size (by repeat (first | (with_reducible first | exact HB.out | apply below_alloc | apply pw_below_drewN | apply below_drew1) | exact HB.out)))); have n1_ := Aside0.mk (below_step (by repeat (first | (with_reducible first | exact HB.out | apply below_alloc | apply pw_below_drewN | apply below_drew1) | exact HB.out)) hb); clear HB; have HO291 := n0_; have HB := n1_; clear n0_ n1_; clear hb ho8) | ((with_reducible refine gate_builtin (b := .append) (xs := #[.tmp 24, .tmp 28]) rfl ?_); at_builtin; refine Kd.R_append (Kd.int .i64) (w0 := w) w.heap.size rfl (.tmp 24) (.tmp 28) 27 3 (.int .i64 0) 8 rfl Try.underlying27 info3 rfl (by decide) (by omega) v290 y289 (wrap64 (4519 + (Int.tmod (wrap64 (a0 - 44032)) 28))) [.int .i64 (wrap64 (4519 + (Int.tmod (wrap64 (a0 - 44032)) 28)))] (fun _ => True) (fun _ => False) rfl rfl ?aP (fun _ hk => hk.elim) ?aF ?aO ?aB ?aS ?aL ?_; (case aP => exact rfl); (case aB => exact (by repeat (first | (with_reducible first | exact HB.out | apply below_alloc | apply pw_below_drewN | apply below_drew1) | exact HB.out))); (case aF => exact (fun _ _ => trivial)); (case aO => exact (by (with_reducible repeat (first | apply Kd.R_alloc | apply Kd.R_drewN | apply Kd.R_drew)); exact HO291.out)); (case aS => exact (below_size (by repeat (first | (with_reducible first | exact HB.out | apply below_alloc | apply pw_below_drewN | apply below_drew1) | exact HB.out)))); (case aL => have := LMc6.out; omega); intro v293 w9 ho hb hg hat; rw [← Ny292.out] at ho; have n0_ := Aside0.mk (hb); have n1_ := Aside0.mk (ho); clear HB; clear HO291; have HB := n0_; have HO294 := n1_; clear n0_ n1_; clear ho hb hg hat))
         go_ret
         exact ⟨_, by first | rfl | (simp [errW_none, errW_some] <;> rfl) | (simp [*, errW_none, errW_some] <;> rfl), by (with_reducible repeat (first | apply Kd.R_alloc | apply Kd.R_drewN | apply Kd.R_drew)); exact HO294.out, by repeat (first | (with_reducible first | exact HB.out | apply below_alloc | apply pw_below_drewN | apply below_drew1) | exact HB.out)⟩
       · rw [if_neg c6] at H
         exact absurd H (by simp)
     · rw [if_neg c5] at H
       have c5b0 : decide (0 < (Int.tmod (wrap64 (a0 - 44032)) 28)) = false := decide_eq_false c5
       clear c5
       obtain rfl := Option.some.inj H
       go_wp2_with (first | ((with_reducible refine gate_dst (N := 20) rfl ?_); refine Kd.R_lit (Kd.int .i64) _ 3 ?hg (N := 20) ?hd (xs := ([wrap64 (4352 + (wrap64 (Int.tdiv (wrap64 (a0 - 44032)) 588))), wrap64 (4449 + (Int.tmod (wrap64 (Int.tdiv (wrap64 (a0 - 44032)) 28)) 21))] : List Int)) (inner := [.int .i64 (wrap64 (4352 + (wrap64 (Int.tdiv (wrap64 (a0 - 44032)) 588)))), .int .i64 (wrap64 (4449 + (Int.tmod (wrap64 (Int.tdiv (wrap64 (a0 - 44032)) 28)) 21)))]) (ok := fun _ => True) (okp := fun _ => True) ?hr ?hp (fun _ hk => hk) trivial (Below.refl _ _) (Nat.le_refl _) (by simp) ?_; (case hd => rfl); (case hg => rfl); (case hr => first | (go_simp; done) | (go_simp; rfl)); (case hp => exact (Reps.one (show Kd.M (Kd.int .i64) _ _ _ (wrap64 (4352 + (wrap64 (Int.tdiv (wrap64 (a0 - 44032)) 588)))) [.int .i64 (wrap64 (4352 + (wrap64 (Int.tdiv (wrap64 (a0 - 44032)) 588))))] from rfl) (Reps.one (show Kd.M (Kd.int .i64) _ _ _ (wrap64 (4449 + (Int.tmod (wrap64 (Int.tdiv (wrap64 (a0 - 44032)) 28)) 21))) [.int .i64 (wrap64 (4449 + (Int.tmod (wrap64 (Int.tdiv (wrap64 (a0 - 44032)) 28)) 21)))] from rfl) (Reps.none _ _)))); intro v290 w10 ho11 hb hg_ hnew_; clear hg_ hnew_; (first | rw [← Ny289.out] at ho11 | (simp only [Int.reduceToNat] at ho11; rw [← Ny289.out] at ho11)); have n0_ := Aside0.mk (Kd.R_lower ho11 (below_size (by repeat (first | (with_reducible first | exact HB.out | apply below_alloc | apply pw_below_drewN | apply below_drew1) | exact HB.out)))); have n1_ := Aside0.mk (below_step (by repeat (first | (with_reducible first | exact HB.out | apply below_alloc | apply pw_below_drewN | apply below_drew1) | exact HB.out)) hb); clear HB; have HO291 := n0_; have HB := n1_; clear n0_ n1_; clear hb ho11))
       go_ret
       exact ⟨_, by first | rfl | (simp [errW_none, errW_some] <;> rfl) | (simp [*, errW_none, errW_some] <;> rfl), by (with_reducible repeat (first | apply Kd.R_alloc | apply Kd.R_drewN | apply Kd.R_drew)); exact HO291.out, by repeat (first | (with_reducible first | exact HB.out | apply below_alloc | apply pw_below_drewN | apply below_drew1) | exact HB.out)⟩

/-! ### ucd_Map: function 69 -/
mutual
def ucd_Map.l0 : Nat → Int → Int → Option (List Int)
 | 0, _, _ => none
 | k + 1, x0, x3 => if x3 < 1304 then ((ucd_hex.f k lit_31b68b x3).bind fun bt295 => (if bt295.1 < x0 then ((ucd_line.f k lit_31b68b x3).bind fun t297 => (ucd_Map.l0 k x0 t297)) else (ucd_Map.l1 k x0 bt295.1 bt295.2 ([] : List Int)))) else (some ([] : List Int))
def ucd_Map.l1 : Nat → Int → Int → Int → List Int → Option (List Int)
 | 0, _, _, _, _ => none
 | k + 1, x0, x4, x5, x6 => if x4 = x0 then (if x5 < 1304 then (if 0 ≤ x5 then (if x5 < (lit_31b68b.size : Int) then (if (bt lit_31b68b x5) = 32 then ((ucd_hex.f k lit_31b68b (wrap64 (x5 + 1))).bind fun bt298 => (if x6.length < 17592186044416 then (ucd_Map.l1 k x0 x4 bt298.2 (x6 ++ [bt298.1])) else (none))) else (some x6)) else (none)) else (none)) else (some x6)) else (some x6)
end
def ucd_Map.f (k : Nat) (a0 : Int) : Option (List Int) := if a0 < 192 then (some ([] : List Int)) else (ucd_Map.l0 k a0 0)
theorem ucd_Map.mono_l : ∀ k, (∀ y0 y1, LeO (ucd_Map.l0 k y0 y1) (ucd_Map.l0 (k + 1) y0 y1)) ∧ (∀ y0 y1 y2 y3, LeO (ucd_Map.l1 k y0 y1 y2 y3) (ucd_Map.l1 (k + 1) y0 y1 y2 y3))
 | 0 => ⟨fun _ _ r h => by simp [ucd_Map.l0] at h, fun _ _ _ _ r h => by simp [ucd_Map.l1] at h⟩
 | k + 1 => by
  obtain ⟨ih0, ih1⟩ := ucd_Map.mono_l k
  refine ⟨?_, ?_⟩
  · intro y0 y1
    unfold ucd_Map.l0
    repeat' first
    | (with_reducible exact ih0 _ _)
    | (with_reducible exact ih1 _ _ _ _)
    | (with_reducible exact ucd_hex.mono _ _ _)
    | (with_reducible exact ucd_line.mono _ _ _)
    | (with_reducible exact LeO.refl _)
    | (with_reducible exact LeO.none _)
    | (with_reducible refine LeO.ite ?_ ?_)
    | (with_reducible refine LeO.bind ?_ (fun _ => ?_))
    | exact ih0 _ _
    | exact ih1 _ _ _ _
    | exact ucd_hex.mono _ _ _
    | exact ucd_line.mono _ _ _
    | exact LeO.none _
    | refine LeO.ite ?_ ?_
    | refine LeO.bind ?_ (fun _ => ?_)
  · intro y0 y1 y2 y3
    unfold ucd_Map.l1
    repeat' first
    | (with_reducible exact ih0 _ _)
    | (with_reducible exact ih1 _ _ _ _)
    | (with_reducible exact ucd_hex.mono _ _ _)
    | (with_reducible exact ucd_line.mono _ _ _)
    | (with_reducible exact LeO.refl _)
    | (with_reducible exact LeO.none _)
    | (with_reducible refine LeO.ite ?_ ?_)
    | (with_reducible refine LeO.bind ?_ (fun _ => ?_))
    | exact ih0 _ _
    | exact ih1 _ _ _ _
    | exact ucd_hex.mono _ _ _
    | exact ucd_line.mono _ _ _
    | exact LeO.none _
    | refine LeO.ite ?_ ?_
    | refine LeO.bind ?_ (fun _ => ?_)
theorem ucd_Map.mono : ∀ a0 k, LeO (ucd_Map.f k a0) (ucd_Map.f (k + 1) a0) := by
 intro a0 k
 obtain ⟨ih0, ih1⟩ := ucd_Map.mono_l k
 unfold ucd_Map.f
 repeat' first
  | (with_reducible exact ih0 _ _)
  | (with_reducible exact ih1 _ _ _ _)
  | (with_reducible exact ucd_hex.mono _ _ _)
  | (with_reducible exact ucd_line.mono _ _ _)
  | (with_reducible exact LeO.refl _)
  | (with_reducible exact LeO.none _)
  | (with_reducible refine LeO.ite ?_ ?_)
  | (with_reducible refine LeO.bind ?_ (fun _ => ?_))
  | exact ih0 _ _
  | exact ih1 _ _ _ _
  | exact ucd_hex.mono _ _ _
  | exact ucd_line.mono _ _ _
  | exact LeO.none _
  | refine LeO.ite ?_ ?_
  | refine LeO.bind ?_ (fun _ => ?_)
set_option maxHeartbeats 8000000 in
set_option maxRecDepth 100000 in
theorem ucd_Map.calls (k : Nat) (a0 : Int) (r : List Int) (w : World) (h : ucd_Map.f k a0 = some r) :
 Calls Try.prog 69 #[.int .i64 a0] w fun e w' => ∃ v0_ : Value, e = .returned (v0_) ∧ Kd.R (Kd.int .i64) 3 w' w.heap.size (fun _ => True) v0_ r ∧ Below w.heap.size w w' := by
 have HB := Aside0.mk (Below.refl w.heap.size w)
 have H : (if a0 < 192 then (some ([] : List Int)) else (ucd_Map.l0 k a0 0)) = some r := h
 clear h
 by_cases c2 : a0 < 192
 · rw [if_pos c2] at H
   have c2b0 : decide (a0 < 192) = true := decide_eq_true c2
   clear c2
   obtain rfl := Option.some.inj H
   go_enter Try.func69, Try.ntmps69
   rw [← lit_31b68b_eq]
   go_wp2
   go_ret
   exact ⟨_, by first | rfl | (simp [errW_none, errW_some] <;> rfl) | (simp [*, errW_none, errW_some] <;> rfl), by first | exact Kd.R_nil _ _ _ _ _ | exact Kd.N_nil _ _ _ _ _ | exact Kd.V_nil _ _ _ _ _ | exact Kd.Q_nil _ _ _ _ _ | exact Kd.S_nil _ _ _ _ _, by repeat (first | (with_reducible first | exact HB.out | apply below_alloc | apply pw_below_drewN | apply below_drew1) | exact HB.out)⟩
 · rw [if_neg c2] at H
   have c2b0 : decide (a0 < 192) = false := decide_eq_false c2
   clear c2
   have H' := Aside0.mk H
   clear H
   go_enter Try.func69, Try.ntmps69
   rw [← lit_31b68b_eq]
   go_wp2
   try simp only [Act.put, List.setIfInBounds_toArray, List.set_cons_succ, List.set_cons_zero]
   go_loopg [3] k (fun kq v3 w' => ∃ (x3_1 : Int), v3 = .int .i64 x3_1 ∧ Aside0 (ucd_Map.l0 kq a0 x3_1 = some r) ∧ Aside0 (kq ≤ k) ∧ Aside0 (Below w.heap.size w w'))
   case atStart => exact ⟨(0), (by first | rfl | (simp; done) | (simp [*]; done)), H', ⟨Nat.le_refl _⟩, ⟨by repeat (first | (with_reducible first | exact HB.out | apply below_alloc | apply pw_below_drewN | apply below_drew1) | exact HB.out)⟩⟩
   case round =>
    clear H'
    (try clear c2); (try clear c2b0); (try clear p2)
    obtain ⟨x3_1, rfl, HA, HK1, HB⟩ := hrel
    cases gk with
    | zero => exact absurd HA.out (by simp [ucd_Map.l0])
    | succ k1 =>
     have H := HA.out
     clear HA
     simp only [ucd_Map.l0] at H
     by_cases c3 : x3_1 < 1304
     · rw [if_pos c3] at H
       have c3b0 : decide (x3_1 < 1304) = true := decide_eq_true c3
       clear c3
       replace H := Option.bind_eq_some_iff.mp H
       obtain ⟨⟨t295, t296⟩, A40, H⟩ := H
       replace H : (if t295 < a0 then ((ucd_line.f k1 lit_31b68b x3_1).bind fun t297 => (ucd_Map.l0 k1 a0 t297)) else (ucd_Map.l1 k1 a0 t295 t296 ([] : List Int))) = some r := H
       have A4 := Aside0.mk A40
       clear A40
       by_cases c5 : t295 < a0
       · rw [if_pos c5] at H
         have c5b0 : decide (t295 < a0) = true := decide_eq_true c5
         clear c5
         replace H := Option.bind_eq_some_iff.mp H
         obtain ⟨t297, A60, H⟩ := H
         replace H : (ucd_Map.l0 k1 a0 t297) = some r := H
         have A6 := Aside0.mk A60
         clear A60
         have H' := Aside0.mk H
         clear H
         go_wp2_with (first | ((with_reducible refine gate_callee (f := 71) rfl ?_); refine goesL_ (some 16) rfl rfl Try.func71 (by kernel_rfl) rfl #[.string lit_31b68b, .int .i64 x3_1] rfl (by (try simp only [List.map_toArray, List.map_cons, List.map_nil]); first | done | rfl | (simp only [List.length_drop, List.length_take]; rfl)) ?_; (with_reducible refine (ucd_hex.calls k1 lit_31b68b x3_1 t295 t296 _ A4.out).mono ?_); rintro e w' ⟨rfl, ⟨nd, rfl⟩⟩; refine ⟨_, rfl, ?_⟩) | ((with_reducible refine gate_callee (f := 70) rfl ?_); refine goesL_ (some 13) rfl rfl Try.func70 (by kernel_rfl) rfl #[.string lit_31b68b, .int .i64 x3_1] rfl (by (try simp only [List.map_toArray, List.map_cons, List.map_nil]); first | done | rfl | (simp only [List.length_drop, List.length_take]; rfl)) ?_; (with_reducible refine (ucd_line.calls k1 lit_31b68b x3_1 t297 _ A6.out).mono ?_); rintro e w' ⟨rfl, ⟨nd, rfl⟩⟩; refine ⟨_, rfl, ?_⟩))
         go_roundg k1
         case measure => have := HK1.out; omega
         case rel => exact ⟨(t297), (by first | rfl | (simp; done) | (simp [*]; done)), H', ⟨by have := HK1.out; omega⟩, ⟨by repeat (first | (with_reducible first | exact HB.out | apply below_alloc | apply pw_below_drewN | apply below_drew1) | exact HB.out)⟩⟩
       · rw [if_neg c5] at H
         have c5b0 : decide (t295 < a0) = false := decide_eq_false c5
         clear c5
         have H' := Aside0.mk H
         clear H
         go_wp2_with (first | ((with_reducible refine gate_callee (f := 71) rfl ?_); refine goesL_ (some 16) rfl rfl Try.func71 (by kernel_rfl) rfl #[.string lit_31b68b, .int .i64 x3_1] rfl (by (try simp only [List.map_toArray, List.map_cons, List.map_nil]); first | done | rfl | (simp only [List.length_drop, List.length_take]; rfl)) ?_; (with_reducible refine (ucd_hex.calls k1 lit_31b68b x3_1 t295 t296 _ A4.out).mono ?_); rintro e w' ⟨rfl, ⟨nd, rfl⟩⟩; refine ⟨_, rfl, ?_⟩))
         try simp only [Act.put, List.setIfInBounds_toArray, List.set_cons_succ, List.set_cons_zero]
         go_loopg [5, 6] k1 (fun kq v5 v6 w' => ∃ (x5_2 : Int) (x6_2 : List Int), v5 = .int .i64 x5_2 ∧ Aside0 (ucd_Map.l1 kq a0 t295 x5_2 x6_2 = some r) ∧ Aside0 (kq ≤ k1) ∧ Aside0 (Kd.R (Kd.int .i64) 3 w' w.heap.size (fun _ => True) v6 x6_2) ∧ Aside0 (Below w.heap.size w w'))
         case atStart => exact ⟨(t296), (([] : List Int)), (by first | rfl | (simp; done) | (simp [*]; done)), H', ⟨Nat.le_refl _⟩, ⟨by first | exact Kd.R_nil _ _ _ _ _ | exact Kd.N_nil _ _ _ _ _ | exact Kd.V_nil _ _ _ _ _ | exact Kd.Q_nil _ _ _ _ _ | exact Kd.S_nil _ _ _ _ _⟩, ⟨by repeat (first | (with_reducible first | exact HB.out | apply below_alloc | apply pw_below_drewN | apply below_drew1) | exact HB.out)⟩⟩
         case round =>
          clear H'
          (try clear c2); (try clear c2b0); (try clear p2); (try clear c3); (try clear c3b0); (try clear c5); (try clear c5b0); (try clear c6); (try clear p2)
          obtain ⟨x5_2, x6_2, rfl, HA, HK2, HO_6, HB⟩ := hrel
          cases gk with
          | zero => exact absurd HA.out (by simp [ucd_Map.l1])
          | succ k2 =>
           have H := HA.out
           clear HA
           simp only [ucd_Map.l1] at H
           by_cases c7 : t295 = a0
           · rw [if_pos c7] at H
             have c7b0 : (t295 == a0) = true := beq_iff_eq.mpr c7
             have c7b1 : (t295 != a0) = false := bne_eq_false_iff_eq.mpr c7
             clear c7
             by_cases c8 : x5_2 < 1304
             · rw [if_pos c8] at H
               have c8b0 : decide (x5_2 < 1304) = true := decide_eq_true c8
               clear c8
               by_cases c9 : 0 ≤ x5_2
               · rw [if_pos c9] at H
                 have c9b0 : decide (0 ≤ x5_2) = true := decide_eq_true c9
                 clear c9
                 by_cases c10 : x5_2 < (lit_31b68b.size : Int)
                 · rw [if_pos c10] at H
                   have c10b0 : decide (x5_2 < (lit_31b68b.size : Int)) = true := decide_eq_true c10
                   clear c10
                   by_cases c12 : (bt lit_31b68b x5_2) = 32
                   · rw [if_pos c12] at H
                     have c12b0 : ((bt lit_31b68b x5_2) == 32) = true := beq_iff_eq.mpr c12
                     have c12b1 : ((bt lit_31b68b x5_2) != 32) = false := bne_eq_false_iff_eq.mpr c12
                     clear c12
                     replace H := Option.bind_eq_some_iff.mp H
                     obtain ⟨⟨t298, t299⟩, A130, H⟩ := H
                     replace H : (if x6_2.length < 17592186044416 then (ucd_Map.l1 k2 a0 t295 t299 (x6_2 ++ [t298])) else (none)) = some r := H
                     have A13 := Aside0.mk A130
                     clear A130
                     by_cases c14 : x6_2.length < 17592186044416
                     · rw [if_pos c14] at H
                       have LMc14 := Aside0.mk c14
                       clear c14
                       obtain ⟨y300, hy300⟩ : ∃ y_ : List Int, y_ = (x6_2 ++ [t298]) := ⟨_, rfl⟩
                       replace H : (ucd_Map.l1 k2 a0 t295 t299 y300) = some r := by first | (rw [hy300]; with_reducible exact H) | (have H2_ := (Option.bind_some _ _).symm.trans H; rw [hy300]; with_reducible exact H2_) | (have H2_ := (Option.bind_some _ _).symm.trans H; with_reducible exact H2_) | with_reducible exact H | (rw [hy300]; exact H) | exact H
                       have Ny300 := Aside0.mk hy300
                       clear hy300
                       have H' := Aside0.mk H
                       clear H
                       have p11 : 0 ≤ (x5_2 : Int) := of_decide_eq_true (by first | (with_reducible assumption) | assumption)
                       have q11 : x5_2 < (lit_31b68b.size : Int) := of_decide_eq_true (by first | (with_reducible assumption) | assumption)
                       have hx11 := bt_at lit_31b68b x5_2
                       replace p11 := eq_true p11
                       replace q11 := eq_true q11
                       go_wp2_with (first | ((with_reducible refine gate_callee (f := 71) rfl ?_); refine goesL_ (some 37) rfl rfl Try.func71 (by kernel_rfl) rfl #[.string lit_31b68b, .int .i64 (wrap64 (x5_2 + 1))] rfl (by (try simp only [List.map_toArray, List.map_cons, List.map_nil]); first | done | rfl | (simp only [List.length_drop, List.length_take]; rfl)) ?_; (with_reducible refine (ucd_hex.calls k2 lit_31b68b (wrap64 (x5_2 + 1)) t298 t299 _ A13.out).mono ?_); rintro e w' ⟨rfl, ⟨nd, rfl⟩⟩; refine ⟨_, rfl, ?_⟩) | ((with_reducible refine gate_builtin (b := .append) (xs := #[.tmp 40, .tmp 42]) rfl ?_); at_builtin; refine Kd.R_append (Kd.int .i64) (w0 := w) w.heap.size rfl (.tmp 40) (.tmp 42) 27 3 (.int .i64 0) 8 rfl Try.underlying27 info3 rfl (by decide) (by omega) u6 x6_2 t298 [.int .i64 t298] (fun _ => True) (fun _ => False) rfl rfl ?aP (fun _ hk => hk.elim) ?aF ?aO ?aB ?aS ?aL ?_; (case aP => exact rfl); (case aB => exact (by repeat (first | (with_reducible first | exact HB.out | apply below_alloc | apply pw_below_drewN | apply below_drew1) | exact HB.out))); (case aF => exact (fun _ _ => trivial)); (case aO => exact (by (with_reducible repeat (first | apply Kd.R_alloc | apply Kd.R_drewN | apply Kd.R_drew)); exact HO_6.out)); (case aS => exact (below_size (by repeat (first | (with_reducible first | exact HB.out | apply below_alloc | apply pw_below_drewN | apply below_drew1) | exact HB.out)))); (case aL => have := LMc14.out; omega); intro v301 w15 ho hb hg hat; rw [← Ny300.out] at ho; have n0_ := Aside0.mk (hb); have n1_ := Aside0.mk (ho); clear HB; clear HO_6; have HB := n0_; have HO302 := n1_; clear n0_ n1_; clear ho hb hg hat))
                       go_roundg k2
                       case measure => have := HK1.out; have := HK2.out; omega
                       case rel => exact ⟨(t299), (y300), (by first | rfl | (simp; done) | (simp [*]; done)), H', ⟨by have := HK1.out; have := HK2.out; omega⟩, ⟨by (with_reducible repeat (first | apply Kd.R_alloc | apply Kd.R_drewN | apply Kd.R_drew)); exact HO302.out⟩, ⟨by repeat (first | (with_reducible first | exact HB.out | apply below_alloc | apply pw_below_drewN | apply below_drew1) | exact HB.out)⟩⟩
                     · rw [if_neg c14] at H
                       exact absurd H (by simp)
                   · rw [if_neg c12] at H
                     have c12b0 : ((bt lit_31b68b x5_2) == 32) = false := beq_eq_false_iff_ne.mpr c12
                     have c12b1 : ((bt lit_31b68b x5_2) != 32) = true := bne_iff_ne.mpr c12
                     obtain rfl := Option.some.inj H
                     have p11 : 0 ≤ (x5_2 : Int) := of_decide_eq_true (by first | (with_reducible assumption) | assumption)
                     have q11 : x5_2 < (lit_31b68b.size : Int) := of_decide_eq_true (by first | (with_reducible assumption) | assumption)
                     have hx11 := bt_at lit_31b68b x5_2
                     replace p11 := eq_true p11
                     replace q11 := eq_true q11
                     go_wp2
                     go_ret
                     exact ⟨_, by first | rfl | (simp [errW_none, errW_some] <;> rfl) | (simp [*, errW_none, errW_some] <;> rfl), by (with_reducible repeat (first | apply Kd.R_alloc | apply Kd.R_drewN | apply Kd.R_drew)); exact HO_6.out, by repeat (first | (with_reducible first | exact HB.out | apply below_alloc | apply pw_below_drewN | apply below_drew1) | exact HB.out)⟩
                 · rw [if_neg c10] at H
                   exact absurd H (by simp)
               · rw [if_neg c9] at H
                 exact absurd H (by simp)
             · rw [if_neg c8] at H
               have c8b0 : decide (x5_2 < 1304) = false := decide_eq_false c8
               clear c8
               obtain rfl := Option.some.inj H
               go_wp2
               go_ret
               exact ⟨_, by first | rfl | (simp [errW_none, errW_some] <;> rfl) | (simp [*, errW_none, errW_some] <;> rfl), by (with_reducible repeat (first | apply Kd.R_alloc | apply Kd.R_drewN | apply Kd.R_drew)); exact HO_6.out, by repeat (first | (with_reducible first | exact HB.out | apply below_alloc | apply pw_below_drewN | apply below_drew1) | exact HB.out)⟩
           · rw [if_neg c7] at H
             have c7b0 : (t295 == a0) = false := beq_eq_false_iff_ne.mpr c7
             have c7b1 : (t295 != a0) = true := bne_iff_ne.mpr c7
             obtain rfl := Option.some.inj H
             go_wp2
             go_ret
             exact ⟨_, by first | rfl | (simp [errW_none, errW_some] <;> rfl) | (simp [*, errW_none, errW_some] <;> rfl), by (with_reducible repeat (first | apply Kd.R_alloc | apply Kd.R_drewN | apply Kd.R_drew)); exact HO_6.out, by repeat (first | (with_reducible first | exact HB.out | apply below_alloc | apply pw_below_drewN | apply below_drew1) | exact HB.out)⟩
     · rw [if_neg c3] at H
       have c3b0 : decide (x3_1 < 1304) = false := decide_eq_false c3
       clear c3
       obtain rfl := Option.some.inj H
       go_wp2
       go_ret
       exact ⟨_, by first | rfl | (simp [errW_none, errW_some] <;> rfl) | (simp [*, errW_none, errW_some] <;> rfl), by first | exact Kd.R_nil _ _ _ _ _ | exact Kd.N_nil _ _ _ _ _ | exact Kd.V_nil _ _ _ _ _ | exact Kd.Q_nil _ _ _ _ _ | exact Kd.S_nil _ _ _ _ _, by repeat (first | (with_reducible first | exact HB.out | apply below_alloc | apply pw_below_drewN | apply below_drew1) | exact HB.out)⟩

end Go.Proofs.Ytiplbhjllkfemaa.MSt
