-- written by mp.py, a program of this session's over the kit's printer
import Derived.Test.YtiplbhjllkfemaaMAllx0
import Derived.Test.YtiplbhjllkfemaaMAllx10
namespace Go.Proofs.Ytiplbhjllkfemaa.MAll
open Go.RowKit Go.Proofs.YtiplbhjllkfemaaW.PrintWords Go.Proofs.YtiplbhjllkfemaaW.PrintLast Go.Proofs.YtiplbhjllkfemaaW.PrintMore
attribute [local go_sem] zxd zvd zqe zpe zjd zid zwd ztd   -- for this text's walks alone
set_option linter.unusedVariables false
set_option linter.unusedSimpArgs false
mutual
def zsa.j0 : Nat → ByteArray → Int → Int → Option (Int × Int)
 | 0, _, _, _ => none
 | k + 1, x0, x4, x5 => if x4 > (x0.size : Int) then (some ((-1), 0)) else (zsa.l0 k x0 x4 x5 1)
def zsa.l0 : Nat → ByteArray → Int → Int → Int → Option (Int × Int)
 | 0, _, _, _, _ => none
 | k + 1, x0, x4, x5, x6 => if x6 < x4 then (if 0 ≤ x6 then (if x6 < (x0.size : Int) then (if ((Int.tdiv (bt x0 x6) 64) % 256) = 2 then (zsa.l0 k x0 x4 (wrap64 ((wrap64 (x5 * 64)) + (wrap64 (Int.tmod (bt x0 x6) 64)))) (wrap64 (x6 + 1))) else (some ((-1), 0))) else (none)) else (none)) else ((zsc.f x5).bind fun t307 => (if t307 = true then ((zrc.f x5).bind fun t308 => (if 0 ≤ x4 then (if x4 ≤ (x0.size : Int) then (if t308.toList = (x0.extract 0 (x4 : Int).toNat).toList then (some (x5, x4)) else (some ((-1), 0))) else (none)) else (none))) else (some ((-1), 0))))
end
def zsa.f (k : Nat) (a0 : ByteArray) : Option (Int × Int) := if a0.toList = ([] : List UInt8) then (some ((-1), 0)) else (if 0 < (a0.size : Int) then (if (wrap64 (bt a0 0)) ≥ 240 then (zsa.j0 k a0 4 (wrap64 ((wrap64 (bt a0 0)) - 240))) else (if (wrap64 (bt a0 0)) ≥ 224 then (zsa.j0 k a0 3 (wrap64 ((wrap64 (bt a0 0)) - 224))) else (if (wrap64 (bt a0 0)) ≥ 192 then (zsa.j0 k a0 2 (wrap64 ((wrap64 (bt a0 0)) - 192))) else (if (wrap64 (bt a0 0)) ≥ 128 then (some ((-1), 0)) else (zsa.j0 k a0 1 (wrap64 (bt a0 0))))))) else (none))
theorem zsa.zyb : ∀ k, (∀ y0 y1 y2, LeO (zsa.j0 k y0 y1 y2) (zsa.j0 (k + 1) y0 y1 y2)) ∧ (∀ y0 y1 y2 y3, LeO (zsa.l0 k y0 y1 y2 y3) (zsa.l0 (k + 1) y0 y1 y2 y3))
 | 0 => ⟨fun _ _ _ r h => by simp [zsa.j0] at h, fun _ _ _ _ r h => by simp [zsa.l0] at h⟩
 | k + 1 => by
  obtain ⟨ih0, ih1⟩ := zsa.zyb k
  refine ⟨?_, ?_⟩
  · intro y0 y1 y2
    unfold zsa.j0
    repeat' first | (with_reducible exact ih0 _ _ _) | (with_reducible exact ih1 _ _ _ _) | (with_reducible exact LeO.refl _) | (with_reducible exact LeO.none _) | (with_reducible refine LeO.ite ?_ ?_) | (with_reducible refine LeO.bind ?_ (fun _ => ?_)) | exact ih0 _ _ _ | exact ih1 _ _ _ _ | exact LeO.none _ | refine LeO.ite ?_ ?_ | refine LeO.bind ?_ (fun _ => ?_)
  · intro y0 y1 y2 y3
    unfold zsa.l0
    repeat' first | (with_reducible exact ih0 _ _ _) | (with_reducible exact ih1 _ _ _ _) | (with_reducible exact LeO.refl _) | (with_reducible exact LeO.none _) | (with_reducible refine LeO.ite ?_ ?_) | (with_reducible refine LeO.bind ?_ (fun _ => ?_)) | exact ih0 _ _ _ | exact ih1 _ _ _ _ | exact LeO.none _ | refine LeO.ite ?_ ?_ | refine LeO.bind ?_ (fun _ => ?_)
theorem zsa.mono : ∀ a0 k, LeO (zsa.f k a0) (zsa.f (k + 1) a0) := by
 intro a0 k
 obtain ⟨ih0, ih1⟩ := zsa.zyb k
 unfold zsa.f
 repeat' first | (with_reducible exact ih0 _ _ _) | (with_reducible exact ih1 _ _ _ _) | (with_reducible exact LeO.refl _) | (with_reducible exact LeO.none _) | (with_reducible refine LeO.ite ?_ ?_) | (with_reducible refine LeO.bind ?_ (fun _ => ?_)) | exact ih0 _ _ _ | exact ih1 _ _ _ _ | exact LeO.none _ | refine LeO.ite ?_ ?_ | refine LeO.bind ?_ (fun _ => ?_)
def zsa.T20 : Bool × List (List Nat × List Nat) := (true, [([], []), ([0], [0]), ([1], [1]), ([2, 1], [2]), ([3], [3]), ([4, 3, 3], [3, 4]), ([3], [3]), ([3], [3]), ([6, 7, 3], [3, 6, 7]), ([5, 8, 3], [3, 5, 8]), ([3, 9], [3, 9])])
def zsa.B20 : List Nat := [0, 1, 3, 7, 15, 31, 15, 15, 207, 511, 1023]
theorem zsa.tab20 : rtab .any (opsOf Try.f29 20) = zsa.T20 := by kernel_rfl
theorem zsa.bits20 : waitsOk zsa.T20.2 zsa.B20 = true := by kernel_rfl
set_option maxHeartbeats 8000000 in
set_option maxRecDepth 100000 in
theorem zsa.calls (k : Nat) (a0 : ByteArray) (r1 : Int) (r2 : Int) (w : World) (h : zsa.f k a0 = some (r1, r2)) :
 Calls Try.prog 29 #[.string a0] w fun e w' => e = .returned (.tuple #[.int .i64 r1, .int .i64 r2]) ∧ Below w.heap.size w w' := by
 have HB := zea.mk (Below.refl w.heap.size w); have H : (if a0.toList = ([] : List UInt8) then (some ((-1), 0)) else (if 0 < (a0.size : Int) then (if (wrap64 (bt a0 0)) ≥ 240 then (zsa.j0 k a0 4 (wrap64 ((wrap64 (bt a0 0)) - 240))) else (if (wrap64 (bt a0 0)) ≥ 224 then (zsa.j0 k a0 3 (wrap64 ((wrap64 (bt a0 0)) - 224))) else (if (wrap64 (bt a0 0)) ≥ 192 then (zsa.j0 k a0 2 (wrap64 ((wrap64 (bt a0 0)) - 192))) else (if (wrap64 (bt a0 0)) ≥ 128 then (some ((-1), 0)) else (zsa.j0 k a0 1 (wrap64 (bt a0 0))))))) else (none))) = some (r1, r2) := h; clear h; by_cases c2 : a0.toList = ([] : List UInt8)
 · rw [if_pos c2] at H; have c2b0 : (a0.toList == ([] : List UInt8)) = true := beq_iff_eq.mpr c2; have c2b1 : (a0.toList != ([] : List UInt8)) = false := bne_eq_false_iff_eq.mpr c2; clear c2; simp only [Option.some.injEq, Prod.mk.injEq] at H; obtain ⟨rfl, rfl⟩ := H; go_enter Try.func29, Try.ntmps29; go_wp2; go_ret2; exact ⟨by first | rfl | (simp [zra, zqa] <;> rfl) | (simp [*, zra, zqa] <;> rfl), by repeat (with_reducible first | exact HB.out | apply zfa | apply zca | apply zda)⟩
 · rw [if_neg c2] at H; have c2b0 : (a0.toList == ([] : List UInt8)) = false := beq_eq_false_iff_ne.mpr c2; have c2b1 : (a0.toList != ([] : List UInt8)) = true := bne_iff_ne.mpr c2; by_cases c3 : 0 < (a0.size : Int)
   · rw [if_pos c3] at H; have c3b0 : decide (0 < (a0.size : Int)) = true := decide_eq_true c3; have c3b1 : decide (0 < a0.size) = true := decide_eq_true (by omega); clear c3; have HC5 := zea.mk H; clear H; go_enter Try.func29, Try.ntmps29; (try go_wp2); have n0_ := zea.mk (zda HB.out); clear HB; have HB := n0_; clear n0_
     have p4 : 0 ≤ (0 : Int) := (by omega)
     have q4 : 0 < a0.size := (by have : (0 : Int) < (a0.size : Int) := of_decide_eq_true (by with_reducible assumption); omega)
     have hx4 : ∀ h : 0 < a0.size, ((a0[0]'h).toNat : Int) = bt a0 0 := bt_at a0 0; clear p4; have qi4 : (0 < (a0.size : Int)) = True := eq_true (of_decide_eq_true (by with_reducible assumption)); replace q4 := eq_true q4; refine start_ (n := 5) (S := fun w' => True) (ds := []) #[false, false, false, false, false] (by kernel_rfl) rfl rfl trivial (fun hHeld => ?_); generalize w.drew = w6 at HB hHeld ⊢; refine pure_ (i := 0) (N := some 9) (v := ?_) (a' := ?_) #[true, false, false, false, false] rfl rfl (by kernel_rfl) (fun _ _ _ h => h) (Or.inl ⟨by rfl, ?_⟩) ?_ ?_; rotate_left
     · intro w'; go_simp; with_reducible rfl
     rotate_left
     · simp only [zss_, i64_w, i32_w]; rfl
     refine pure_ (i := 3) (N := some 4) (v := ?_) (a' := ?_) #[true, false, false, true, false] rfl rfl (by kernel_rfl) (fun _ _ _ h => h) (Or.inl ⟨by rfl, ?_⟩) ?_ ?_; rotate_left
     · intro w'; go_simp; with_reducible rfl
     rotate_left
     · simp only [zss_, i64_w, i32_w]; rfl
     refine take_ (i := 1) (N := some 10) (v := ?_) (a' := ?_) #[true, true, false, true, false] rfl rfl (by kernel_rfl) (fun _ _ _ h => h) (Or.inl ⟨by rfl, ?_⟩) hHeld ?_ ?_; rotate_left
     · intro w' _; go_simp; with_reducible rfl
     rotate_left
     · simp only [zss_, i64_w, i32_w]; rfl
     refine pure_ (i := 2) (N := some 11) (v := ?_) (a' := ?_) #[true, true, true, true, false] rfl rfl (by kernel_rfl) (fun _ _ _ h => h) (Or.inl ⟨by rfl, ?_⟩) ?_ ?_; rotate_left
     · intro w'; go_simp; with_reducible rfl
     rotate_left
     · simp only [zss_, i64_w, i32_w]; rfl
     refine pure_ (i := 4) (N := some 5) (v := ?_) (a' := ?_) #[true, true, true, true, true] rfl rfl (by kernel_rfl) (fun _ _ _ h => h) (Or.inl ⟨by rfl, ?_⟩) ?_ ?_; rotate_left
     · intro w'; go_simp; with_reducible rfl
     rotate_left
     · simp only [zss_, i64_w, i32_w]; rfl
     refine done_ (by kernel_rfl) ?_
     go_upto_block 0 with (fail)
     go_cut [4, 5] (fun v4 v5 wc => ∃ (kq : Nat) (x4_4 : Int) (x5_4 : Int), v4 = .int .i64 x4_4 ∧ v5 = .int .i64 x5_4 ∧ zea (zsa.j0 kq a0 x4_4 x5_4 = some (r1, r2)) ∧ zea (kq ≤ k) ∧ zea (Below w.heap.size w wc))
     case first =>
      have H := HC5.out; clear HC5; by_cases c7 : (wrap64 (bt a0 0)) ≥ 240
      · rw [if_pos c7] at H; have c7b0 : decide (240 ≤ (wrap64 (bt a0 0))) = true := decide_eq_true c7; clear c7; (first | rw [c7b0] | (simp only [i64_w, i32_w]; rw [c7b0]) | skip); have H' := zea.mk H; clear H; go_wp2; go_meet
        case rel => exact ⟨_, (4), (wrap64 ((wrap64 (bt a0 0)) - 240)), (by first | rfl | (simp [*]; done)), (by first | rfl | (simp [*]; done)), H', ⟨by first | omega | exact Nat.le_refl _⟩, ⟨by repeat (with_reducible first | exact HB.out | apply zfa | apply zca | apply zda)⟩⟩
      · rw [if_neg c7] at H; have c7b0 : decide (240 ≤ (wrap64 (bt a0 0))) = false := decide_eq_false c7; clear c7; (first | rw [c7b0] | (simp only [i64_w, i32_w]; rw [c7b0]) | skip); by_cases c8 : (wrap64 (bt a0 0)) ≥ 224
        · rw [if_pos c8] at H; have c8b0 : decide (224 ≤ (wrap64 (bt a0 0))) = true := decide_eq_true c8; clear c8; have H' := zea.mk H; clear H; go_wp2; go_meet
          case rel => exact ⟨_, (3), (wrap64 ((wrap64 (bt a0 0)) - 224)), (by first | rfl | (simp [*]; done)), (by first | rfl | (simp [*]; done)), H', ⟨by first | omega | exact Nat.le_refl _⟩, ⟨by repeat (with_reducible first | exact HB.out | apply zfa | apply zca | apply zda)⟩⟩
        · rw [if_neg c8] at H; have c8b0 : decide (224 ≤ (wrap64 (bt a0 0))) = false := decide_eq_false c8; clear c8; by_cases c9 : (wrap64 (bt a0 0)) ≥ 192
          · rw [if_pos c9] at H; have c9b0 : decide (192 ≤ (wrap64 (bt a0 0))) = true := decide_eq_true c9; clear c9; have H' := zea.mk H; clear H; go_wp2; go_meet
            case rel => exact ⟨_, (2), (wrap64 ((wrap64 (bt a0 0)) - 192)), (by first | rfl | (simp [*]; done)), (by first | rfl | (simp [*]; done)), H', ⟨by first | omega | exact Nat.le_refl _⟩, ⟨by repeat (with_reducible first | exact HB.out | apply zfa | apply zca | apply zda)⟩⟩
          · rw [if_neg c9] at H; have c9b0 : decide (192 ≤ (wrap64 (bt a0 0))) = false := decide_eq_false c9; clear c9; by_cases c10 : (wrap64 (bt a0 0)) ≥ 128
            · rw [if_pos c10] at H; have c10b0 : decide (128 ≤ (wrap64 (bt a0 0))) = true := decide_eq_true c10; clear c10; simp only [Option.some.injEq, Prod.mk.injEq] at H; obtain ⟨rfl, rfl⟩ := H; go_wp2; go_ret2; exact ⟨by first | rfl | (simp [zra, zqa] <;> rfl) | (simp [*, zra, zqa] <;> rfl), by repeat (with_reducible first | exact HB.out | apply zfa | apply zca | apply zda)⟩
            · rw [if_neg c10] at H; have c10b0 : decide (128 ≤ (wrap64 (bt a0 0))) = false := decide_eq_false c10; clear c10; have H' := zea.mk H; clear H; go_wp2; go_meet
              case rel => exact ⟨_, (1), (wrap64 (bt a0 0)), (by first | rfl | (simp [*]; done)), (by first | rfl | (simp [*]; done)), H', ⟨by first | omega | exact Nat.le_refl _⟩, ⟨by repeat (with_reducible first | exact HB.out | apply zfa | apply zca | apply zda)⟩⟩
     case rest =>
      clear HC5
      (try clear c1); (try clear c2); (try clear c2b0); (try clear c2b1); (try clear p2); (try clear c3); (try clear c3b0); (try clear c3b1); (try clear p4); (try clear q4); (try clear hx4); (try clear qi4); (try clear p6); (try clear c7); (try clear c7b0); (try clear c8); (try clear c8b0); (try clear c9); (try clear c9b0); (try clear c10); (try clear c10b0); (try clear p4); (try clear q4)
      obtain ⟨kq, x4_4, x5_4, rfl, rfl, HA, HJ4, HB⟩ := hcut
      cases kq with
      | zero => exact absurd HA.out (by simp [zsa.j0])
      | succ kj4 =>
       have H := HA.out; clear HA; simp only [zsa.j0] at H; by_cases c11 : x4_4 > (a0.size : Int)
       · rw [if_pos c11] at H; have c11b0 : decide ((a0.size : Int) < x4_4) = true := decide_eq_true c11; clear c11; simp only [Option.some.injEq, Prod.mk.injEq] at H; obtain ⟨rfl, rfl⟩ := H; go_wp2; go_ret2; exact ⟨by first | rfl | (simp [zra, zqa] <;> rfl) | (simp [*, zra, zqa] <;> rfl), by repeat (with_reducible first | exact HB.out | apply zfa | apply zca | apply zda)⟩
       · rw [if_neg c11] at H; have c11b0 : decide ((a0.size : Int) < x4_4) = false := decide_eq_false c11; clear c11; have H' := zea.mk H; clear H; go_wp2; (try simp only [zss_]); go_loopg [5, 6] kj4 (fun kq v5 v6 w' => ∃ (x5_2 : Int) (x6_2 : Int), v5 = .int .i64 x5_2 ∧ v6 = .int .i64 x6_2 ∧ zea (zsa.l0 kq a0 x4_4 x5_2 x6_2 = some (r1, r2)) ∧ zea (kq ≤ kj4) ∧ zea (Below w.heap.size w w'))
         case atStart => exact ⟨(x5_4), (1), (by first | rfl | (simp [*]; done)), (by first | rfl | (simp [*]; done)), H', ⟨Nat.le_refl _⟩, ⟨by repeat (with_reducible first | exact HB.out | apply zfa | apply zca | apply zda)⟩⟩
         case round =>
          clear H'
          (try clear c1); (try clear c2); (try clear c2b0); (try clear c2b1); (try clear p2); (try clear c3); (try clear c3b0); (try clear c3b1); (try clear p4); (try clear q4); (try clear hx4); (try clear qi4); (try clear p6); (try clear c7); (try clear c7b0); (try clear c8); (try clear c8b0); (try clear c9); (try clear c9b0); (try clear c10); (try clear c10b0); (try clear c11); (try clear c11b0); (try clear p2); (try clear p4); (try clear p6); (try clear q4)
          obtain ⟨x5_2, x6_2, rfl, rfl, HA, HK2, HB⟩ := hrel
          cases gk with
          | zero => exact absurd HA.out (by simp [zsa.l0])
          | succ k2 =>
           have H := HA.out; clear HA; simp only [zsa.l0] at H; by_cases c12 : x6_2 < x4_4
           · rw [if_pos c12] at H; have c12b0 : decide (x6_2 < x4_4) = true := decide_eq_true c12; clear c12; by_cases c13 : 0 ≤ x6_2
             · rw [if_pos c13] at H; have c13b0 : decide (0 ≤ x6_2) = true := decide_eq_true c13; clear c13; by_cases c14 : x6_2 < (a0.size : Int)
               · rw [if_pos c14] at H; have c14b0 : decide (x6_2 < (a0.size : Int)) = true := decide_eq_true c14; clear c14; by_cases c16 : ((Int.tdiv (bt a0 x6_2) 64) % 256) = 2
                 · rw [if_pos c16] at H; have c16b0 : (((Int.tdiv (bt a0 x6_2) 64) % 256) == 2) = true := beq_iff_eq.mpr c16; have c16b1 : (((Int.tdiv (bt a0 x6_2) 64) % 256) != 2) = false := bne_eq_false_iff_eq.mpr c16; clear c16; have H' := zea.mk H; clear H; have p15 : 0 ≤ (x6_2 : Int) := of_decide_eq_true (by with_reducible assumption); have q15 : x6_2 < (a0.size : Int) := of_decide_eq_true (by with_reducible assumption); have hx15 := bt_at a0 x6_2; replace p15 := eq_true p15; replace q15 := eq_true q15; have p17 : 0 ≤ (x6_2 : Int) := of_decide_eq_true (by with_reducible assumption); have q17 : x6_2 < (a0.size : Int) := of_decide_eq_true (by with_reducible assumption); have hx17 := bt_at a0 x6_2; replace p17 := eq_true p17; replace q17 := eq_true q17; go_wp2; go_roundg k2
                   case measure => have := HJ4.out; have := HK2.out; omega
                   case rel => exact ⟨(wrap64 ((wrap64 (x5_2 * 64)) + (wrap64 (Int.tmod (bt a0 x6_2) 64)))), (wrap64 (x6_2 + 1)), (by first | rfl | (simp [*]; done)), (by first | rfl | (simp [*]; done)), H', ⟨by have := HJ4.out; have := HK2.out; omega⟩, ⟨by repeat (with_reducible first | exact HB.out | apply zfa | apply zca | apply zda)⟩⟩
                 · rw [if_neg c16] at H; have c16b0 : (((Int.tdiv (bt a0 x6_2) 64) % 256) == 2) = false := beq_eq_false_iff_ne.mpr c16; have c16b1 : (((Int.tdiv (bt a0 x6_2) 64) % 256) != 2) = true := bne_iff_ne.mpr c16; simp only [Option.some.injEq, Prod.mk.injEq] at H; obtain ⟨rfl, rfl⟩ := H; have p15 : 0 ≤ (x6_2 : Int) := of_decide_eq_true (by with_reducible assumption); have q15 : x6_2 < (a0.size : Int) := of_decide_eq_true (by with_reducible assumption); have hx15 := bt_at a0 x6_2; replace p15 := eq_true p15; replace q15 := eq_true q15; go_wp2; go_ret2; exact ⟨by first | rfl | (simp [zra, zqa] <;> rfl) | (simp [*, zra, zqa] <;> rfl), by repeat (with_reducible first | exact HB.out | apply zfa | apply zca | apply zda)⟩
               · rw [if_neg c14] at H; exact absurd H (by simp)
             · rw [if_neg c13] at H; exact absurd H (by simp)
           · rw [if_neg c12] at H; have c12b0 : decide (x6_2 < x4_4) = false := decide_eq_false c12; clear c12; replace H := Option.bind_eq_some_iff.mp H; obtain ⟨t307, A180, H⟩ := H; replace H : (if t307 = true then ((zrc.f x5_2).bind fun t308 => (if 0 ≤ x4_4 then (if x4_4 ≤ (a0.size : Int) then (if t308.toList = (a0.extract 0 (x4_4 : Int).toNat).toList then (some (x5_2, x4_4)) else (some ((-1), 0))) else (none)) else (none))) else (some ((-1), 0))) = some (r1, r2) := H; have A18 := zea.mk A180; clear A180; by_cases c19 : t307 = true
             · subst c19; have H1 : ((zrc.f x5_2).bind fun t308 => (if 0 ≤ x4_4 then (if x4_4 ≤ (a0.size : Int) then (if t308.toList = (a0.extract 0 (x4_4 : Int).toNat).toList then (some (x5_2, x4_4)) else (some ((-1), 0))) else (none)) else (none))) = some (r1, r2) := by rw [if_pos rfl] at H; exact H
               clear H; have H := H1; clear H1; replace H := Option.bind_eq_some_iff.mp H; obtain ⟨t308, A200, H⟩ := H; replace H : (if 0 ≤ x4_4 then (if x4_4 ≤ (a0.size : Int) then (if t308.toList = (a0.extract 0 (x4_4 : Int).toNat).toList then (some (x5_2, x4_4)) else (some ((-1), 0))) else (none)) else (none)) = some (r1, r2) := H; have A20 := zea.mk A200; clear A200; by_cases c21 : 0 ≤ x4_4
               · rw [if_pos c21] at H; have c21b0 := eq_true c21; have c21b1 : decide (0 ≤ x4_4) = true := decide_eq_true c21; clear c21; by_cases c22 : x4_4 ≤ (a0.size : Int)
                 · rw [if_pos c22] at H; have c22b0 := eq_true c22; have c22b1 : decide (x4_4 ≤ (a0.size : Int)) = true := decide_eq_true c22; clear c22; by_cases c23 : t308.toList = (a0.extract 0 (x4_4 : Int).toNat).toList
                   · rw [if_pos c23] at H; have c23b0 : (t308.toList == (a0.extract 0 (x4_4 : Int).toNat).toList) = true := beq_iff_eq.mpr c23; have c23b1 : (t308.toList != (a0.extract 0 (x4_4 : Int).toNat).toList) = false := bne_eq_false_iff_eq.mpr c23; clear c23; simp only [Option.some.injEq, Prod.mk.injEq] at H; obtain ⟨rfl, rfl⟩ := H; (try go_wp2); have n0_ := zea.mk (zda HB.out); clear HB; have HB := n0_; clear n0_; refine start_ (n := 11) (S := fun w' => True) (ds := []) #[false, false, false, false, false, false, false, false, false, false, false] (by kernel_rfl) rfl rfl trivial (fun hHeld => ?_); refine zdd zsa.tab20 zsa.bits20 (fun HT_ HW_ => ?_); generalize wr.drew = w24 at HB hHeld ⊢; refine pure_ (i := 0) (N := some 52) (v := ?_) (a' := ?_) #[true, false, false, false, false, false, false, false, false, false, false] rfl rfl (zcb HT_.out (by kernel_rfl)) (fun _ _ _ h => h) (Or.inl ⟨by rfl, ?_⟩) ?_ ?_; rotate_left
                     · intro w'; go_simp; with_reducible rfl
                     rotate_left
                     · simp only [zss_, i64_w, i32_w]; rfl
                     refine one_ (i := 1) (N := some 53) #[true, true, false, false, false, false, false, false, false, false, false] rfl rfl (zbe HT_.out (by kernel_rfl)) (by decide) (fun K hK => ?_); refine goes_ Try.func41 (by kernel_rfl) rfl #[.int .i64 x5_2] (by rfl) rfl rfl (by (try simp only [List.map_toArray, List.map_cons, List.map_nil]); first | done | rfl | (simp only [List.length_drop, List.length_take]; rfl)) ?_; with_reducible refine (zsc.calls x5_2 true _ A18.out).mono ?_; rintro e w' ⟨rfl, ⟨nd, rfl⟩⟩; refine ⟨_, rfl, ?_⟩; refine hK.out _ _ trivial (fun hHeld => ?_); clear hK K; refine norm_ (a' := ?_) ?_ ?_; rotate_left
                     · show Act.put _ (some 53) _ = _; simp only [zss_, i64_w, i32_w]; rfl
                     refine pure_ (i := 2) (N := some 54) (v := ?_) (a' := ?_) #[true, true, true, false, false, false, false, false, false, false, false] rfl rfl (zcb HT_.out (by kernel_rfl)) (fun _ _ _ h => h) (Or.inl ⟨by rfl, ?_⟩) ?_ ?_; rotate_left
                     · intro w'; go_simp; with_reducible rfl
                     rotate_left
                     · simp only [zss_, i64_w, i32_w]; rfl
                     refine pure_ (i := 3) (N := some 55) (v := ?_) (a' := ?_) #[true, true, true, true, false, false, false, false, false, false, false] rfl rfl (zcb HT_.out (by kernel_rfl)) (fun _ _ _ h => h) (Or.inl ⟨by rfl, ?_⟩) ?_ ?_; rotate_left
                     · intro w'; go_simp; with_reducible rfl
                     rotate_left
                     · simp only [zss_, i64_w, i32_w]; rfl
                     refine pure_ (i := 4) (N := some 56) (v := ?_) (a' := ?_) #[true, true, true, true, true, false, false, false, false, false, false] rfl rfl (zcb HT_.out (by kernel_rfl)) (fun _ _ _ h => h) (Or.inl ⟨by rfl, ?_⟩) ?_ ?_; rotate_left
                     · intro w'; go_simp; with_reducible rfl
                     rotate_left
                     · simp only [zss_, i64_w, i32_w]; rfl
                     refine pure_ (i := 6) (N := some 58) (v := ?_) (a' := ?_) #[true, true, true, true, true, false, true, false, false, false, false] rfl rfl (zcb HT_.out (by kernel_rfl)) (fun _ _ _ h => h) (Or.inl ⟨by rfl, ?_⟩) ?_ ?_; rotate_left
                     · intro w'; go_simp; with_reducible rfl
                     rotate_left
                     · simp only [zss_, i64_w, i32_w]; rfl
                     refine pure_ (i := 7) (N := some 59) (v := ?_) (a' := ?_) #[true, true, true, true, true, false, true, true, false, false, false] rfl rfl (zcb HT_.out (by kernel_rfl)) (fun _ _ _ h => h) (Or.inl ⟨by rfl, ?_⟩) ?_ ?_; rotate_left
                     · intro w'; go_simp; with_reducible rfl
                     rotate_left
                     · simp only [zss_, i64_w, i32_w]; rfl
                     refine pure_ (i := 8) (N := some 60) (v := ?_) (a' := ?_) #[true, true, true, true, true, false, true, true, true, false, false] rfl rfl (zcb HT_.out (by kernel_rfl)) (fun _ _ _ h => h) (Or.inl ⟨by rfl, ?_⟩) ?_ ?_; rotate_left
                     · intro w'; go_simp; with_reducible rfl
                     rotate_left
                     · simp only [zss_, i64_w, i32_w]; rfl
                     refine one_ (i := 5) (N := some 57) #[true, true, true, true, true, true, true, true, true, false, false] rfl rfl (zbe HT_.out (by kernel_rfl)) (by decide) (fun K hK => ?_); refine goes_ Try.func42 (by kernel_rfl) rfl #[.int .i64 x5_2] (by rfl) rfl rfl (by (try simp only [List.map_toArray, List.map_cons, List.map_nil]); first | done | rfl | (simp only [List.length_drop, List.length_take]; rfl)) ?_; with_reducible refine (zrc.calls x5_2 t308 _ A20.out).mono ?_; rintro e w25 ⟨rfl, hb⟩; refine ⟨_, rfl, ?_⟩; have n0_ := zea.mk (zbb (by repeat (with_reducible first | exact HB.out | apply zfa | apply zca | apply zda)) hb); clear HB; have HB := n0_; clear n0_; (try clear hb); (try clear hb2); (try clear hk); (try clear hi); refine hK.out _ _ trivial (fun hHeld => ?_); clear hK K; refine norm_ (a' := ?_) ?_ ?_; rotate_left
                     · show Act.put _ (some 57) _ = _; simp only [zss_, i64_w, i32_w]; rfl
                     refine pure_ (i := 9) (N := some 61) (v := ?_) (a' := ?_) #[true, true, true, true, true, true, true, true, true, true, false] rfl rfl (zcb HT_.out (by kernel_rfl)) (fun _ _ _ h => h) (Or.inl ⟨by rfl, ?_⟩) ?_ ?_; rotate_left
                     · intro w'; go_simp; with_reducible rfl
                     rotate_left
                     · simp only [zss_, i64_w, i32_w]; rfl
                     refine pure_ (i := 10) (N := some 62) (v := ?_) (a' := ?_) #[true, true, true, true, true, true, true, true, true, true, true] rfl rfl (zcb HT_.out (by kernel_rfl)) (fun _ _ _ h => h) (Or.inl ⟨by rfl, ?_⟩) ?_ ?_; rotate_left
                     · intro w'; go_simp; with_reducible rfl
                     rotate_left
                     · simp only [zss_, i64_w, i32_w]; rfl
                     refine done_ (zde HT_.out (by kernel_rfl)) ?_; (try go_wp2); go_ret2; exact ⟨by first | rfl | (simp [zra, zqa] <;> rfl) | (simp [*, zra, zqa] <;> rfl), by repeat (with_reducible first | exact HB.out | apply zfa | apply zca | apply zda)⟩
                   · rw [if_neg c23] at H; have c23b0 : (t308.toList == (a0.extract 0 (x4_4 : Int).toNat).toList) = false := beq_eq_false_iff_ne.mpr c23; have c23b1 : (t308.toList != (a0.extract 0 (x4_4 : Int).toNat).toList) = true := bne_iff_ne.mpr c23; simp only [Option.some.injEq, Prod.mk.injEq] at H; obtain ⟨rfl, rfl⟩ := H; (try go_wp2); have n0_ := zea.mk (zda HB.out); clear HB; have HB := n0_; clear n0_; refine start_ (n := 11) (S := fun w' => True) (ds := []) #[false, false, false, false, false, false, false, false, false, false, false] (by kernel_rfl) rfl rfl trivial (fun hHeld => ?_); refine zdd zsa.tab20 zsa.bits20 (fun HT_ HW_ => ?_); generalize wr.drew = w26 at HB hHeld ⊢; refine pure_ (i := 0) (N := some 52) (v := ?_) (a' := ?_) #[true, false, false, false, false, false, false, false, false, false, false] rfl rfl (zcb HT_.out (by kernel_rfl)) (fun _ _ _ h => h) (Or.inl ⟨by rfl, ?_⟩) ?_ ?_; rotate_left
                     · intro w'; go_simp; with_reducible rfl
                     rotate_left
                     · simp only [zss_, i64_w, i32_w]; rfl
                     refine one_ (i := 1) (N := some 53) #[true, true, false, false, false, false, false, false, false, false, false] rfl rfl (zbe HT_.out (by kernel_rfl)) (by decide) (fun K hK => ?_); refine goes_ Try.func41 (by kernel_rfl) rfl #[.int .i64 x5_2] (by rfl) rfl rfl (by (try simp only [List.map_toArray, List.map_cons, List.map_nil]); first | done | rfl | (simp only [List.length_drop, List.length_take]; rfl)) ?_; with_reducible refine (zsc.calls x5_2 true _ A18.out).mono ?_; rintro e w' ⟨rfl, ⟨nd, rfl⟩⟩; refine ⟨_, rfl, ?_⟩; refine hK.out _ _ trivial (fun hHeld => ?_); clear hK K; refine norm_ (a' := ?_) ?_ ?_; rotate_left
                     · show Act.put _ (some 53) _ = _; simp only [zss_, i64_w, i32_w]; rfl
                     refine pure_ (i := 2) (N := some 54) (v := ?_) (a' := ?_) #[true, true, true, false, false, false, false, false, false, false, false] rfl rfl (zcb HT_.out (by kernel_rfl)) (fun _ _ _ h => h) (Or.inl ⟨by rfl, ?_⟩) ?_ ?_; rotate_left
                     · intro w'; go_simp; with_reducible rfl
                     rotate_left
                     · simp only [zss_, i64_w, i32_w]; rfl
                     refine pure_ (i := 3) (N := some 55) (v := ?_) (a' := ?_) #[true, true, true, true, false, false, false, false, false, false, false] rfl rfl (zcb HT_.out (by kernel_rfl)) (fun _ _ _ h => h) (Or.inl ⟨by rfl, ?_⟩) ?_ ?_; rotate_left
                     · intro w'; go_simp; with_reducible rfl
                     rotate_left
                     · simp only [zss_, i64_w, i32_w]; rfl
                     refine pure_ (i := 4) (N := some 56) (v := ?_) (a' := ?_) #[true, true, true, true, true, false, false, false, false, false, false] rfl rfl (zcb HT_.out (by kernel_rfl)) (fun _ _ _ h => h) (Or.inl ⟨by rfl, ?_⟩) ?_ ?_; rotate_left
                     · intro w'; go_simp; with_reducible rfl
                     rotate_left
                     · simp only [zss_, i64_w, i32_w]; rfl
                     refine pure_ (i := 6) (N := some 58) (v := ?_) (a' := ?_) #[true, true, true, true, true, false, true, false, false, false, false] rfl rfl (zcb HT_.out (by kernel_rfl)) (fun _ _ _ h => h) (Or.inl ⟨by rfl, ?_⟩) ?_ ?_; rotate_left
                     · intro w'; go_simp; with_reducible rfl
                     rotate_left
                     · simp only [zss_, i64_w, i32_w]; rfl
                     refine pure_ (i := 7) (N := some 59) (v := ?_) (a' := ?_) #[true, true, true, true, true, false, true, true, false, false, false] rfl rfl (zcb HT_.out (by kernel_rfl)) (fun _ _ _ h => h) (Or.inl ⟨by rfl, ?_⟩) ?_ ?_; rotate_left
                     · intro w'; go_simp; with_reducible rfl
                     rotate_left
                     · simp only [zss_, i64_w, i32_w]; rfl
                     refine pure_ (i := 8) (N := some 60) (v := ?_) (a' := ?_) #[true, true, true, true, true, false, true, true, true, false, false] rfl rfl (zcb HT_.out (by kernel_rfl)) (fun _ _ _ h => h) (Or.inl ⟨by rfl, ?_⟩) ?_ ?_; rotate_left
                     · intro w'; go_simp; with_reducible rfl
                     rotate_left
                     · simp only [zss_, i64_w, i32_w]; rfl
                     refine one_ (i := 5) (N := some 57) #[true, true, true, true, true, true, true, true, true, false, false] rfl rfl (zbe HT_.out (by kernel_rfl)) (by decide) (fun K hK => ?_); refine goes_ Try.func42 (by kernel_rfl) rfl #[.int .i64 x5_2] (by rfl) rfl rfl (by (try simp only [List.map_toArray, List.map_cons, List.map_nil]); first | done | rfl | (simp only [List.length_drop, List.length_take]; rfl)) ?_; with_reducible refine (zrc.calls x5_2 t308 _ A20.out).mono ?_; rintro e w27 ⟨rfl, hb⟩; refine ⟨_, rfl, ?_⟩; have n0_ := zea.mk (zbb (by repeat (with_reducible first | exact HB.out | apply zfa | apply zca | apply zda)) hb); clear HB; have HB := n0_; clear n0_; (try clear hb); (try clear hb2); (try clear hk); (try clear hi); refine hK.out _ _ trivial (fun hHeld => ?_); clear hK K; refine norm_ (a' := ?_) ?_ ?_; rotate_left
                     · show Act.put _ (some 57) _ = _; simp only [zss_, i64_w, i32_w]; rfl
                     refine pure_ (i := 9) (N := some 61) (v := ?_) (a' := ?_) #[true, true, true, true, true, true, true, true, true, true, false] rfl rfl (zcb HT_.out (by kernel_rfl)) (fun _ _ _ h => h) (Or.inl ⟨by rfl, ?_⟩) ?_ ?_; rotate_left
                     · intro w'; go_simp; with_reducible rfl
                     rotate_left
                     · simp only [zss_, i64_w, i32_w]; rfl
                     refine pure_ (i := 10) (N := some 62) (v := ?_) (a' := ?_) #[true, true, true, true, true, true, true, true, true, true, true] rfl rfl (zcb HT_.out (by kernel_rfl)) (fun _ _ _ h => h) (Or.inl ⟨by rfl, ?_⟩) ?_ ?_; rotate_left
                     · intro w'; go_simp; with_reducible rfl
                     rotate_left
                     · simp only [zss_, i64_w, i32_w]; rfl
                     refine done_ (zde HT_.out (by kernel_rfl)) ?_; (try go_wp2); go_ret2; exact ⟨by first | rfl | (simp [zra, zqa] <;> rfl) | (simp [*, zra, zqa] <;> rfl), by repeat (with_reducible first | exact HB.out | apply zfa | apply zca | apply zda)⟩
                 · rw [if_neg c22] at H; exact absurd H (by simp)
               · rw [if_neg c21] at H; exact absurd H (by simp)
             · replace c19 := Bool.eq_false_iff.mpr c19; subst c19; have H1 : (some ((-1), 0)) = some (r1, r2) := by rw [if_neg (show ¬ (false = true) by decide)] at H; exact H
               clear H; have H := H1; clear H1; simp only [Option.some.injEq, Prod.mk.injEq] at H; obtain ⟨rfl, rfl⟩ := H; (try go_wp2); have n0_ := zea.mk (zda HB.out); clear HB; have HB := n0_; clear n0_; refine start_ (n := 11) (S := fun w' => True) (ds := []) #[false, false, false, false, false, false, false, false, false, false, false] (by kernel_rfl) rfl rfl trivial (fun hHeld => ?_); refine zdd zsa.tab20 zsa.bits20 (fun HT_ HW_ => ?_); generalize wr.drew = w28 at HB hHeld ⊢; refine pure_ (i := 0) (N := some 52) (v := ?_) (a' := ?_) #[true, false, false, false, false, false, false, false, false, false, false] rfl rfl (zcb HT_.out (by kernel_rfl)) (fun _ _ _ h => h) (Or.inl ⟨by rfl, ?_⟩) ?_ ?_; rotate_left
               · intro w'; go_simp; with_reducible rfl
               rotate_left
               · simp only [zss_, i64_w, i32_w]; rfl
               refine one_ (i := 1) (N := some 53) #[true, true, false, false, false, false, false, false, false, false, false] rfl rfl (zbe HT_.out (by kernel_rfl)) (by decide) (fun K hK => ?_); refine goes_ Try.func41 (by kernel_rfl) rfl #[.int .i64 x5_2] (by rfl) rfl rfl (by (try simp only [List.map_toArray, List.map_cons, List.map_nil]); first | done | rfl | (simp only [List.length_drop, List.length_take]; rfl)) ?_; with_reducible refine (zsc.calls x5_2 false _ A18.out).mono ?_; rintro e w' ⟨rfl, ⟨nd, rfl⟩⟩; refine ⟨_, rfl, ?_⟩; refine hK.out _ _ trivial (fun hHeld => ?_); clear hK K; refine norm_ (a' := ?_) ?_ ?_; rotate_left
               · show Act.put _ (some 53) _ = _; simp only [zss_, i64_w, i32_w]; rfl
               refine pure_ (i := 2) (N := some 54) (v := ?_) (a' := ?_) #[true, true, true, false, false, false, false, false, false, false, false] rfl rfl (zcb HT_.out (by kernel_rfl)) (fun _ _ _ h => h) (Or.inl ⟨by rfl, ?_⟩) ?_ ?_; rotate_left
               · intro w'; go_simp; with_reducible rfl
               rotate_left
               · simp only [zss_, i64_w, i32_w]; rfl
               refine pure_ (i := 3) (N := some 55) (v := ?_) (a' := ?_) #[true, true, true, true, false, false, false, false, false, false, false] rfl rfl (zcb HT_.out (by kernel_rfl)) (fun _ _ _ h => h) (Or.inl ⟨by rfl, ?_⟩) ?_ ?_; rotate_left
               · intro w'; go_simp; with_reducible rfl
               rotate_left
               · simp only [zss_, i64_w, i32_w]; rfl
               refine pure_ (i := 4) (N := some 56) (v := undef) (a' := ?_) #[true, true, true, true, true, false, false, false, false, false, false] rfl rfl (zcb HT_.out (by kernel_rfl)) (fun _ _ _ h => h) (Or.inr ⟨by rfl, rfl⟩) ?_ ?_; rotate_left
               · simp only [zss_, i64_w, i32_w]; rfl
               refine pure_ (i := 5) (N := some 57) (v := undef) (a' := ?_) #[true, true, true, true, true, true, false, false, false, false, false] rfl rfl (zcb HT_.out (by kernel_rfl)) (fun _ _ _ h => h) (Or.inr ⟨by rfl, rfl⟩) ?_ ?_; rotate_left
               · simp only [zss_, i64_w, i32_w]; rfl
               refine pure_ (i := 6) (N := some 58) (v := undef) (a' := ?_) #[true, true, true, true, true, true, true, false, false, false, false] rfl rfl (zcb HT_.out (by kernel_rfl)) (fun _ _ _ h => h) (Or.inr ⟨by rfl, rfl⟩) ?_ ?_; rotate_left
               · simp only [zss_, i64_w, i32_w]; rfl
               refine pure_ (i := 7) (N := some 59) (v := undef) (a' := ?_) #[true, true, true, true, true, true, true, true, false, false, false] rfl rfl (zcb HT_.out (by kernel_rfl)) (fun _ _ _ h => h) (Or.inr ⟨by rfl, rfl⟩) ?_ ?_; rotate_left
               · simp only [zss_, i64_w, i32_w]; rfl
               refine pure_ (i := 8) (N := some 60) (v := undef) (a' := ?_) #[true, true, true, true, true, true, true, true, true, false, false] rfl rfl (zcb HT_.out (by kernel_rfl)) (fun _ _ _ h => h) (Or.inr ⟨by rfl, rfl⟩) ?_ ?_; rotate_left
               · simp only [zss_, i64_w, i32_w]; rfl
               refine pure_ (i := 9) (N := some 61) (v := undef) (a' := ?_) #[true, true, true, true, true, true, true, true, true, true, false] rfl rfl (zcb HT_.out (by kernel_rfl)) (fun _ _ _ h => h) (Or.inr ⟨by rfl, rfl⟩) ?_ ?_; rotate_left
               · simp only [zss_, i64_w, i32_w]; rfl
               refine pure_ (i := 10) (N := some 62) (v := ?_) (a' := ?_) #[true, true, true, true, true, true, true, true, true, true, true] rfl rfl (zcb HT_.out (by kernel_rfl)) (fun _ _ _ h => h) (Or.inl ⟨by rfl, ?_⟩) ?_ ?_; rotate_left
               · intro w'; go_simp; with_reducible rfl
               rotate_left
               · simp only [zss_, i64_w, i32_w]; rfl
               refine done_ (zde HT_.out (by kernel_rfl)) ?_; (try go_wp2); go_ret2; exact ⟨by first | rfl | (simp [zra, zqa] <;> rfl) | (simp [*, zra, zqa] <;> rfl), by repeat (with_reducible first | exact HB.out | apply zfa | apply zca | apply zda)⟩
   · rw [if_neg c3] at H; exact absurd H (by simp)
def zjb.l0 : Nat → ByteArray → List Int → Option (List Int × Bool)
 | 0, _, _ => none
 | k + 1, x0, x4 => if x0.toList = ([] : List UInt8) then (some (x4, true)) else ((zsa.f k x0).bind fun bt309 => (if bt309.2 = 0 then (some (([] : List Int), false)) else (if x4.length < 17592186044416 then (if 0 ≤ bt309.2 then (if bt309.2 ≤ (x0.size : Int) then (zjb.l0 k (x0.extract (bt309.2 : Int).toNat x0.size) (x4 ++ [bt309.1])) else (none)) else (none)) else (none))))
def zjb.f (k : Nat) (a0 : ByteArray) : Option (List Int × Bool) := zjb.l0 k a0 ([] : List Int)
theorem zjb.zyb : ∀ k, (∀ y0 y1, LeO (zjb.l0 k y0 y1) (zjb.l0 (k + 1) y0 y1))
 | 0 => fun _ _ r h => by simp [zjb.l0] at h
 | k + 1 => by
  have ih0 := zjb.zyb k
  · intro y0 y1
    unfold zjb.l0
    repeat' first | (with_reducible exact ih0 _ _) | (with_reducible exact zsa.mono _ _) | (with_reducible exact LeO.refl _) | (with_reducible exact LeO.none _) | (with_reducible refine LeO.ite ?_ ?_) | (with_reducible refine LeO.bind ?_ (fun _ => ?_)) | exact ih0 _ _ | exact zsa.mono _ _ | exact LeO.none _ | refine LeO.ite ?_ ?_ | refine LeO.bind ?_ (fun _ => ?_)
theorem zjb.mono : ∀ a0 k, LeO (zjb.f k a0) (zjb.f (k + 1) a0) := by
 intro a0 k
 have ih0 := zjb.zyb k
 unfold zjb.f
 repeat' first | (with_reducible exact ih0 _ _) | (with_reducible exact zsa.mono _ _) | (with_reducible exact LeO.refl _) | (with_reducible exact LeO.none _) | (with_reducible refine LeO.ite ?_ ?_) | (with_reducible refine LeO.bind ?_ (fun _ => ?_)) | exact ih0 _ _ | exact zsa.mono _ _ | exact LeO.none _ | refine LeO.ite ?_ ?_ | refine LeO.bind ?_ (fun _ => ?_)
set_option maxHeartbeats 8000000 in
set_option maxRecDepth 100000 in
theorem zjb.calls (k : Nat) (a0 : ByteArray) (r1 : List Int) (r2 : Bool) (w : World) (h : zjb.f k a0 = some (r1, r2)) :
 Calls Try.prog 14 #[.string a0] w fun e w' => ∃ v0_ : Value, e = .returned (.tuple #[v0_, .bool r2]) ∧ Kd.R (Kd.int .i64) 3 w' w.heap.size (fun _ => True) v0_ r1 ∧ Below w.heap.size w w' := by
 have HB := zea.mk (Below.refl w.heap.size w); have H : (zjb.l0 k a0 ([] : List Int)) = some (r1, r2) := h; clear h; have H' := zea.mk H; clear H; go_enter Try.func14, Try.ntmps14; go_wp2; (try simp only [zss_]); go_loopg [0, 4] k (fun kq v0 v4 w' => ∃ (x0_1 : ByteArray) (x4_1 : List Int), v0 = .string x0_1 ∧ zea (zjb.l0 kq x0_1 x4_1 = some (r1, r2)) ∧ zea (kq ≤ k) ∧ zea (Kd.R (Kd.int .i64) 3 w' w.heap.size (fun _ => True) v4 x4_1) ∧ zea (Below w.heap.size w w'))
 case atStart => exact ⟨(a0), (([] : List Int)), (by first | rfl | (simp [*]; done)), H', ⟨Nat.le_refl _⟩, ⟨by first | exact Kd.R_nil _ _ _ _ _ | exact Kd.N_nil _ _ _ _ _ | exact Kd.V_nil _ _ _ _ _ | exact Kd.Q_nil _ _ _ _ _ | exact Kd.S_nil _ _ _ _ _⟩, ⟨by repeat (with_reducible first | exact HB.out | apply zfa | apply zca | apply zda)⟩⟩
 case round =>
  clear H'; (try clear c1); obtain ⟨x0_1, x4_1, rfl, HA, HK1, HO_4, HB⟩ := hrel
  cases gk with
  | zero => exact absurd HA.out (by simp [zjb.l0])
  | succ k1 =>
   have H := HA.out; clear HA; simp only [zjb.l0] at H; by_cases c2 : x0_1.toList = ([] : List UInt8)
   · rw [if_pos c2] at H; have c2b0 : (x0_1.toList == ([] : List UInt8)) = true := beq_iff_eq.mpr c2; have c2b1 : (x0_1.toList != ([] : List UInt8)) = false := bne_eq_false_iff_eq.mpr c2; clear c2; simp only [Option.some.injEq, Prod.mk.injEq] at H; obtain ⟨rfl, rfl⟩ := H; go_wp2; go_ret2; exact ⟨_, by first | rfl | (simp [zra, zqa] <;> rfl) | (simp [*, zra, zqa] <;> rfl), by (with_reducible repeat (first | apply Kd.zpa | apply Kd.zoa | apply Kd.zwa)); exact HO_4.out, by repeat (with_reducible first | exact HB.out | apply zfa | apply zca | apply zda)⟩
   · rw [if_neg c2] at H; have c2b0 : (x0_1.toList == ([] : List UInt8)) = false := beq_eq_false_iff_ne.mpr c2; have c2b1 : (x0_1.toList != ([] : List UInt8)) = true := bne_iff_ne.mpr c2; replace H := Option.bind_eq_some_iff.mp H; obtain ⟨⟨t309, t310⟩, A30, H⟩ := H; replace H : (if t310 = 0 then (some (([] : List Int), false)) else (if x4_1.length < 17592186044416 then (if 0 ≤ t310 then (if t310 ≤ (x0_1.size : Int) then (zjb.l0 k1 (x0_1.extract (t310 : Int).toNat x0_1.size) (x4_1 ++ [t309])) else (none)) else (none)) else (none))) = some (r1, r2) := H; have A3 := zea.mk A30; clear A30; by_cases c4 : t310 = 0
     · rw [if_pos c4] at H; have c4b0 : (t310 == 0) = true := beq_iff_eq.mpr c4; have c4b1 : (t310 != 0) = false := bne_eq_false_iff_eq.mpr c4; clear c4; simp only [Option.some.injEq, Prod.mk.injEq] at H; obtain ⟨rfl, rfl⟩ := H; go_wp2_with (first | ((with_reducible refine zab (f := 29) rfl ?_); refine zhc (some 11) rfl rfl Try.func29 (by kernel_rfl) rfl #[.string x0_1] rfl (by (try simp only [List.map_toArray, List.map_cons, List.map_nil]); first | done | rfl | (simp only [List.length_drop, List.length_take]; rfl)) ?_; (with_reducible refine (zsa.calls k1 x0_1 t309 t310 _ A3.out).mono ?_); rintro e w5 ⟨rfl, hb⟩; refine ⟨_, rfl, ?_⟩; have n0_ := zea.mk (Kd.zpc (by (with_reducible repeat (first | apply Kd.zpa | apply Kd.zoa | apply Kd.zwa)); exact HO_4.out) hb); have n1_ := zea.mk (zbb (by repeat (with_reducible first | exact HB.out | apply zfa | apply zca | apply zda)) hb); clear HO_4; clear HB; have HO_4 := n0_; have HB := n1_; clear n0_ n1_; (try clear hb); (try clear hb2); (try clear hk); (try clear hi))); go_ret2; exact ⟨_, by first | rfl | (simp [zra, zqa] <;> rfl) | (simp [*, zra, zqa] <;> rfl), by first | exact Kd.R_nil _ _ _ _ _ | exact Kd.N_nil _ _ _ _ _ | exact Kd.V_nil _ _ _ _ _ | exact Kd.Q_nil _ _ _ _ _ | exact Kd.S_nil _ _ _ _ _, by repeat (with_reducible first | exact HB.out | apply zfa | apply zca | apply zda)⟩
     · rw [if_neg c4] at H; have c4b0 : (t310 == 0) = false := beq_eq_false_iff_ne.mpr c4; have c4b1 : (t310 != 0) = true := bne_iff_ne.mpr c4; by_cases c6 : x4_1.length < 17592186044416
       · rw [if_pos c6] at H; have LMc6 := zea.mk c6; clear c6
         obtain ⟨y311, hy311⟩ : ∃ y_ : List Int, y_ = (x4_1 ++ [t309]) := ⟨_, rfl⟩
         replace H : (if 0 ≤ t310 then (if t310 ≤ (x0_1.size : Int) then (zjb.l0 k1 (x0_1.extract (t310 : Int).toNat x0_1.size) y311) else (none)) else (none)) = some (r1, r2) := by first | (rw [hy311]; with_reducible exact H) | (have H2_ := (Option.bind_some _ _).symm.trans H; rw [hy311]; with_reducible exact H2_) | (have H2_ := (Option.bind_some _ _).symm.trans H; with_reducible exact H2_) | with_reducible exact H | (rw [hy311]; exact H) | exact H
         have Ny311 := zea.mk hy311; clear hy311; by_cases c7 : 0 ≤ t310
         · rw [if_pos c7] at H; have c7b0 := eq_true c7; have c7b1 : decide (0 ≤ t310) = true := decide_eq_true c7; clear c7; by_cases c8 : t310 ≤ (x0_1.size : Int)
           · rw [if_pos c8] at H; have c8b0 := eq_true c8; have c8b1 : decide (t310 ≤ (x0_1.size : Int)) = true := decide_eq_true c8; clear c8; have H' := zea.mk H; clear H; go_wp2_with (first | ((with_reducible refine zab (f := 29) rfl ?_); refine zhc (some 11) rfl rfl Try.func29 (by kernel_rfl) rfl #[.string x0_1] rfl (by (try simp only [List.map_toArray, List.map_cons, List.map_nil]); first | done | rfl | (simp only [List.length_drop, List.length_take]; rfl)) ?_; (with_reducible refine (zsa.calls k1 x0_1 t309 t310 _ A3.out).mono ?_); rintro e w9 ⟨rfl, hb⟩; refine ⟨_, rfl, ?_⟩; have n0_ := zea.mk (Kd.zpc (by (with_reducible repeat (first | apply Kd.zpa | apply Kd.zoa | apply Kd.zwa)); exact HO_4.out) hb); have n1_ := zea.mk (zbb (by repeat (with_reducible first | exact HB.out | apply zfa | apply zca | apply zda)) hb); clear HO_4; clear HB; have HO_4 := n0_; have HB := n1_; clear n0_ n1_; (try clear hb); (try clear hb2); (try clear hk); (try clear hi)) | ((with_reducible refine zqc (b := .append) (xs := #[.tmp 16, .tmp 18]) rfl ?_); at_builtin; refine Kd.zkd (Kd.int .i64) (w0 := w) w.heap.size rfl (.tmp 16) (.tmp 18) 27 3 (.int .i64 0) 8 rfl Try.underlying27 info3 rfl (by decide) (by omega) u4 x4_1 t309 [.int .i64 t309] (fun _ => True) (fun _ => False) rfl rfl ?aP (fun _ hk => hk.elim) ?aF ?aO ?aB ?aS ?aL ?_; (case aP => exact rfl); (case aB => exact (by repeat (with_reducible first | exact HB.out | apply zfa | apply zca | apply zda))); (case aF => exact (fun _ _ => trivial)); (case aO => exact (by (with_reducible repeat (first | apply Kd.zpa | apply Kd.zoa | apply Kd.zwa)); exact HO_4.out)); (case aS => exact (zdb (by repeat (with_reducible first | exact HB.out | apply zfa | apply zca | apply zda)))); (case aL => have := LMc6.out; omega); intro v312 w10 ho hb hg hat; rw [← Ny311.out] at ho; have n0_ := zea.mk (hb); have n1_ := zea.mk (ho); clear HB; clear HO_4; have HB := n0_; have HO313 := n1_; clear n0_ n1_; clear ho hb hg hat)); go_roundg k1
             case measure => have := HK1.out; omega
             case rel => exact ⟨(x0_1.extract (t310 : Int).toNat x0_1.size), (y311), (by first | rfl | (simp [*]; done)), H', ⟨by have := HK1.out; omega⟩, ⟨by (with_reducible repeat (first | apply Kd.zpa | apply Kd.zoa | apply Kd.zwa)); exact HO313.out⟩, ⟨by repeat (with_reducible first | exact HB.out | apply zfa | apply zca | apply zda)⟩⟩
           · rw [if_neg c8] at H; exact absurd H (by simp)
         · rw [if_neg c7] at H; exact absurd H (by simp)
       · rw [if_neg c6] at H; exact absurd H (by simp)
end Go.Proofs.Ytiplbhjllkfemaa.MAll
