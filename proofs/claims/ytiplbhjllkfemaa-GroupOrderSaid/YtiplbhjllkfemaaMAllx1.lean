-- written by mp.py, a program of this session's over the kit's printer
import Derived.Test.YtiplbhjllkfemaaMAllx0
namespace Go.Proofs.Ytiplbhjllkfemaa.MAll
open Go.RowKit Go.Proofs.YtiplbhjllkfemaaW.PrintWords Go.Proofs.YtiplbhjllkfemaaW.PrintLast Go.Proofs.YtiplbhjllkfemaaW.PrintMore
attribute [local go_sem] zxd zvd zqe zpe zjd zid zwd ztd   -- for this text's walks alone
set_option linter.unusedVariables false
set_option linter.unusedSimpArgs false
def zwc.f (a0 : ByteArray) (a1 : Int) : Option (ByteArray) := if (a0.size : Int) > a1 then (if 0 ≤ a1 then (if a1 ≤ (a0.size : Int) then (some (a0.extract 0 (a1 : Int).toNat)) else (none)) else (none)) else (some a0)
set_option maxHeartbeats 8000000 in
set_option maxRecDepth 100000 in
theorem zwc.calls (a0 : ByteArray) (a1 : Int) (r : ByteArray) (w : World) (h : zwc.f a0 a1 = some r) :
 Calls Try.prog 9 #[.string a0, .int .i64 a1] w fun e w' => e = .returned (.string r) ∧ zib w w' := by
 have H : (if (a0.size : Int) > a1 then (if 0 ≤ a1 then (if a1 ≤ (a0.size : Int) then (some (a0.extract 0 (a1 : Int).toNat)) else (none)) else (none)) else (some a0)) = some r := h; clear h; by_cases c3 : (a0.size : Int) > a1
 · rw [if_pos c3] at H; have c3b0 : decide (a1 < (a0.size : Int)) = true := decide_eq_true c3; clear c3; by_cases c4 : 0 ≤ a1
   · rw [if_pos c4] at H; have c4b0 := eq_true c4; have c4b1 : decide (0 ≤ a1) = true := decide_eq_true c4; clear c4; by_cases c5 : a1 ≤ (a0.size : Int)
     · rw [if_pos c5] at H; have c5b0 := eq_true c5; have c5b1 : decide (a1 ≤ (a0.size : Int)) = true := decide_eq_true c5; clear c5; obtain rfl := Option.some.inj H; go_enter Try.func9, Try.ntmps9; go_wp2; go_ret; exact ⟨by first | rfl | (simp; done) | (simp [*]; done), by repeat (first | exact zib.refl _ | apply zib.step)⟩
     · rw [if_neg c5] at H; exact absurd H (by simp)
   · rw [if_neg c4] at H; exact absurd H (by simp)
 · rw [if_neg c3] at H; have c3b0 : decide (a1 < (a0.size : Int)) = false := decide_eq_false c3; clear c3; obtain rfl := Option.some.inj H; go_enter Try.func9, Try.ntmps9; go_wp2; go_ret; exact ⟨by first | rfl | (simp; done) | (simp [*]; done), by repeat (first | exact zib.refl _ | apply zib.step)⟩
mutual
def zec.j0 : Nat → Int → Bool → Option (Int × Int)
 | 0, _, _ => none
 | k + 1, x0, x9 => if x9 = true then (some (2, wrap64 (Go.bits .and .u8 x0 31))) else (if x0 ≥ 224 then (zec.j1 k x0 (decide (x0 < 240))) else (zec.j1 k x0 false))
def zec.j1 : Nat → Int → Bool → Option (Int × Int)
 | 0, _, _ => none
 | k + 1, x0, x19 => if x19 = true then (some (3, wrap64 (Go.bits .and .u8 x0 15))) else (if x0 ≥ 240 then (if x0 < 245 then (some (4, wrap64 (Go.bits .and .u8 x0 7))) else (some (0, 0))) else (some (0, 0)))
end
def zec.f (k : Nat) (a0 : Int) : Option (Int × Int) := if a0 < 128 then (some (1, wrap64 (a0))) else (if a0 ≥ 194 then (zec.j0 k a0 (decide (a0 < 224))) else (zec.j0 k a0 false))
theorem zec.zyb : ∀ k, (∀ y0 y1, LeO (zec.j0 k y0 y1) (zec.j0 (k + 1) y0 y1)) ∧ (∀ y0 y1, LeO (zec.j1 k y0 y1) (zec.j1 (k + 1) y0 y1))
 | 0 => ⟨fun _ _ r h => by simp [zec.j0] at h, fun _ _ r h => by simp [zec.j1] at h⟩
 | k + 1 => by
  obtain ⟨ih0, ih1⟩ := zec.zyb k
  refine ⟨?_, ?_⟩
  · intro y0 y1
    unfold zec.j0
    repeat' first | (with_reducible exact ih0 _ _) | (with_reducible exact ih1 _ _) | (with_reducible exact LeO.refl _) | (with_reducible exact LeO.none _) | (with_reducible refine LeO.ite ?_ ?_) | (with_reducible refine LeO.bind ?_ (fun _ => ?_)) | exact ih0 _ _ | exact ih1 _ _ | exact LeO.none _ | refine LeO.ite ?_ ?_ | refine LeO.bind ?_ (fun _ => ?_)
  · intro y0 y1
    unfold zec.j1
    repeat' first | (with_reducible exact ih0 _ _) | (with_reducible exact ih1 _ _) | (with_reducible exact LeO.refl _) | (with_reducible exact LeO.none _) | (with_reducible refine LeO.ite ?_ ?_) | (with_reducible refine LeO.bind ?_ (fun _ => ?_)) | exact ih0 _ _ | exact ih1 _ _ | exact LeO.none _ | refine LeO.ite ?_ ?_ | refine LeO.bind ?_ (fun _ => ?_)
theorem zec.mono : ∀ a0 k, LeO (zec.f k a0) (zec.f (k + 1) a0) := by
 intro a0 k
 obtain ⟨ih0, ih1⟩ := zec.zyb k
 unfold zec.f
 repeat' first | (with_reducible exact ih0 _ _) | (with_reducible exact ih1 _ _) | (with_reducible exact LeO.refl _) | (with_reducible exact LeO.none _) | (with_reducible refine LeO.ite ?_ ?_) | (with_reducible refine LeO.bind ?_ (fun _ => ?_)) | exact ih0 _ _ | exact ih1 _ _ | exact LeO.none _ | refine LeO.ite ?_ ?_ | refine LeO.bind ?_ (fun _ => ?_)
set_option maxHeartbeats 8000000 in
set_option maxRecDepth 100000 in
theorem zec.calls (k : Nat) (a0 : Int) (r1 : Int) (r2 : Int) (w : World) (h : zec.f k a0 = some (r1, r2)) :
 Calls Try.prog 47 #[.int .u8 a0] w fun e w' => e = .returned (.tuple #[.int .i64 r1, .int .i64 r2]) ∧ zib w w' := by
 have H : (if a0 < 128 then (some (1, wrap64 (a0))) else (if a0 ≥ 194 then (zec.j0 k a0 (decide (a0 < 224))) else (zec.j0 k a0 false))) = some (r1, r2) := h; clear h; by_cases c2 : a0 < 128
 · rw [if_pos c2] at H; have c2b0 : decide (a0 < 128) = true := decide_eq_true c2; clear c2; simp only [Option.some.injEq, Prod.mk.injEq] at H; obtain ⟨rfl, rfl⟩ := H; go_enter Try.func47, Try.ntmps47; go_wp2; go_ret2; exact ⟨by first | rfl | (simp; done) | (simp [*]; done), by repeat (first | exact zib.refl _ | apply zib.step)⟩
 · rw [if_neg c2] at H; have c2b0 : decide (a0 < 128) = false := decide_eq_false c2; clear c2; have HC3 := zea.mk H; clear H; go_enter Try.func47, Try.ntmps47
   go_upto_region 3 with (fail)
   go_cut [9] (fun v9 wc => ∃ (kq : Nat) (x9_2 : Bool), v9 = .bool x9_2 ∧ zea (zec.j0 kq a0 x9_2 = some (r1, r2)) ∧ zea (kq ≤ k) ∧ zib w wc)
   case first =>
    have H := HC3.out; clear HC3; by_cases c4 : a0 ≥ 194
    · rw [if_pos c4] at H; have c4b0 : decide (194 ≤ a0) = true := decide_eq_true c4; clear c4; (first | rw [c4b0] | (simp only [i64_w, i32_w]; rw [c4b0]) | skip); have H' := zea.mk H; clear H; go_wp2; go_meet
      case rel => exact ⟨_, (decide (a0 < 224)), (by first | rfl | (simp [*]; done)), H', ⟨by first | omega | exact Nat.le_refl _⟩, by repeat (first | exact zib.refl _ | apply zib.step)⟩
    · rw [if_neg c4] at H; have c4b0 : decide (194 ≤ a0) = false := decide_eq_false c4; clear c4; (first | rw [c4b0] | (simp only [i64_w, i32_w]; rw [c4b0]) | skip); have H' := zea.mk H; clear H; go_wp2; go_meet
      case rel => exact ⟨_, (false), (by first | rfl | (simp [*]; done)), H', ⟨by first | omega | exact Nat.le_refl _⟩, by repeat (first | exact zib.refl _ | apply zib.step)⟩
   case rest =>
    clear HC3
    (try clear c2); (try clear c2b0); (try clear p2); (try clear c4); (try clear c4b0)
    obtain ⟨kq, x9_2, rfl, HA, HJ2, ⟨mc2, rfl⟩⟩ := hcut
    cases kq with
    | zero => exact absurd HA.out (by simp [zec.j0])
    | succ kj2 =>
     have H := HA.out; clear HA; simp only [zec.j0] at H; by_cases c5 : x9_2 = true
     · subst c5; have H1 : (some (2, wrap64 (Go.bits .and .u8 a0 31))) = some (r1, r2) := by rw [if_pos rfl] at H; exact H
       clear H; have H := H1; clear H1; simp only [Option.some.injEq, Prod.mk.injEq] at H; obtain ⟨rfl, rfl⟩ := H; go_wp2; go_ret2; exact ⟨by first | rfl | (simp; done) | (simp [*]; done), by repeat (first | exact zib.refl _ | apply zib.step)⟩
     · replace c5 := Bool.eq_false_iff.mpr c5; subst c5; have H1 : (if a0 ≥ 224 then (zec.j1 kj2 a0 (decide (a0 < 240))) else (zec.j1 kj2 a0 false)) = some (r1, r2) := by rw [if_neg (show ¬ (false = true) by decide)] at H; exact H
       clear H; have H := H1; clear H1; have HC6 := zea.mk H; clear H
       go_upto_region 5 with (fail)
       go_cut [19] (fun v19 wc => ∃ (kq : Nat) (x19_5 : Bool), v19 = .bool x19_5 ∧ zea (zec.j1 kq a0 x19_5 = some (r1, r2)) ∧ zea (kq ≤ kj2) ∧ zib w wc)
       case first =>
        have H := HC6.out; clear HC6; by_cases c7 : a0 ≥ 224
        · rw [if_pos c7] at H; have c7b0 : decide (224 ≤ a0) = true := decide_eq_true c7; clear c7; (first | rw [c7b0] | (simp only [i64_w, i32_w]; rw [c7b0]) | skip); have H' := zea.mk H; clear H; go_wp2; go_meet
          case rel => exact ⟨_, (decide (a0 < 240)), (by first | rfl | (simp [*]; done)), H', ⟨by have := HJ2.out; first | omega | exact Nat.le_refl _⟩, by repeat (first | exact zib.refl _ | apply zib.step)⟩
        · rw [if_neg c7] at H; have c7b0 : decide (224 ≤ a0) = false := decide_eq_false c7; clear c7; (first | rw [c7b0] | (simp only [i64_w, i32_w]; rw [c7b0]) | skip); have H' := zea.mk H; clear H; go_wp2; go_meet
          case rel => exact ⟨_, (false), (by first | rfl | (simp [*]; done)), H', ⟨by have := HJ2.out; first | omega | exact Nat.le_refl _⟩, by repeat (first | exact zib.refl _ | apply zib.step)⟩
       case rest =>
        clear HC6
        (try clear c2); (try clear c2b0); (try clear p2); (try clear c4); (try clear c4b0); (try clear c5); (try clear p6); (try clear c7); (try clear c7b0); (try clear p2)
        obtain ⟨kq, x19_5, rfl, HA, HJ5, ⟨mc5, rfl⟩⟩ := hcut
        cases kq with
        | zero => exact absurd HA.out (by simp [zec.j1])
        | succ kj5 =>
         have H := HA.out; clear HA; simp only [zec.j1] at H; by_cases c8 : x19_5 = true
         · subst c8; have H1 : (some (3, wrap64 (Go.bits .and .u8 a0 15))) = some (r1, r2) := by rw [if_pos rfl] at H; exact H
           clear H; have H := H1; clear H1; simp only [Option.some.injEq, Prod.mk.injEq] at H; obtain ⟨rfl, rfl⟩ := H; go_wp2; go_ret2; exact ⟨by first | rfl | (simp; done) | (simp [*]; done), by repeat (first | exact zib.refl _ | apply zib.step)⟩
         · replace c8 := Bool.eq_false_iff.mpr c8; subst c8; have H1 : (if a0 ≥ 240 then (if a0 < 245 then (some (4, wrap64 (Go.bits .and .u8 a0 7))) else (some (0, 0))) else (some (0, 0))) = some (r1, r2) := by rw [if_neg (show ¬ (false = true) by decide)] at H; exact H
           clear H; have H := H1; clear H1; by_cases c9 : a0 ≥ 240
           · rw [if_pos c9] at H; have c9b0 : decide (240 ≤ a0) = true := decide_eq_true c9; clear c9; by_cases c10 : a0 < 245
             · rw [if_pos c10] at H; have c10b0 : decide (a0 < 245) = true := decide_eq_true c10; clear c10; simp only [Option.some.injEq, Prod.mk.injEq] at H; obtain ⟨rfl, rfl⟩ := H; go_wp2; go_ret2; exact ⟨by first | rfl | (simp; done) | (simp [*]; done), by repeat (first | exact zib.refl _ | apply zib.step)⟩
             · rw [if_neg c10] at H; have c10b0 : decide (a0 < 245) = false := decide_eq_false c10; clear c10; simp only [Option.some.injEq, Prod.mk.injEq] at H; obtain ⟨rfl, rfl⟩ := H; go_wp2; go_ret2; exact ⟨by first | rfl | (simp; done) | (simp [*]; done), by repeat (first | exact zib.refl _ | apply zib.step)⟩
           · rw [if_neg c9] at H; have c9b0 : decide (240 ≤ a0) = false := decide_eq_false c9; clear c9; simp only [Option.some.injEq, Prod.mk.injEq] at H; obtain ⟨rfl, rfl⟩ := H; go_wp2; go_ret2; exact ⟨by first | rfl | (simp; done) | (simp [*]; done), by repeat (first | exact zib.refl _ | apply zib.step)⟩
def utf_least.f (a0 : Int) : Option (Int) := if a0 = 2 then (some 128) else (if a0 = 3 then (some 2048) else (if a0 = 4 then (some 65536) else (some 0)))
set_option maxHeartbeats 8000000 in
set_option maxRecDepth 100000 in
theorem utf_least.calls (a0 : Int) (r : Int) (w : World) (h : utf_least.f a0 = some r) :
 Calls Try.prog 48 #[.int .i64 a0] w fun e w' => e = .returned (.int .i64 r) ∧ zib w w' := by
 have H : (if a0 = 2 then (some 128) else (if a0 = 3 then (some 2048) else (if a0 = 4 then (some 65536) else (some 0)))) = some r := h; clear h; by_cases c2 : a0 = 2
 · rw [if_pos c2] at H; have c2b0 : (a0 == 2) = true := beq_iff_eq.mpr c2; have c2b1 : (a0 != 2) = false := bne_eq_false_iff_eq.mpr c2; clear c2; obtain rfl := Option.some.inj H; go_enter Try.func48, Try.ntmps48; go_wp2; go_ret; exact ⟨by first | rfl | (simp; done) | (simp [*]; done), by repeat (first | exact zib.refl _ | apply zib.step)⟩
 · rw [if_neg c2] at H; have c2b0 : (a0 == 2) = false := beq_eq_false_iff_ne.mpr c2; have c2b1 : (a0 != 2) = true := bne_iff_ne.mpr c2; by_cases c3 : a0 = 3
   · rw [if_pos c3] at H; have c3b0 : (a0 == 3) = true := beq_iff_eq.mpr c3; have c3b1 : (a0 != 3) = false := bne_eq_false_iff_eq.mpr c3; clear c3; obtain rfl := Option.some.inj H; go_enter Try.func48, Try.ntmps48; go_wp2; go_ret; exact ⟨by first | rfl | (simp; done) | (simp [*]; done), by repeat (first | exact zib.refl _ | apply zib.step)⟩
   · rw [if_neg c3] at H; have c3b0 : (a0 == 3) = false := beq_eq_false_iff_ne.mpr c3; have c3b1 : (a0 != 3) = true := bne_iff_ne.mpr c3; by_cases c4 : a0 = 4
     · rw [if_pos c4] at H; have c4b0 : (a0 == 4) = true := beq_iff_eq.mpr c4; have c4b1 : (a0 != 4) = false := bne_eq_false_iff_eq.mpr c4; clear c4; obtain rfl := Option.some.inj H; go_enter Try.func48, Try.ntmps48; go_wp2; go_ret; exact ⟨by first | rfl | (simp; done) | (simp [*]; done), by repeat (first | exact zib.refl _ | apply zib.step)⟩
     · rw [if_neg c4] at H; have c4b0 : (a0 == 4) = false := beq_eq_false_iff_ne.mpr c4; have c4b1 : (a0 != 4) = true := bne_iff_ne.mpr c4; obtain rfl := Option.some.inj H; go_enter Try.func48, Try.ntmps48; go_wp2; go_ret; exact ⟨by first | rfl | (simp; done) | (simp [*]; done), by repeat (first | exact zib.refl _ | apply zib.step)⟩
def zce.f (a0 : Int) : Option (Bool) := if a0 ≥ 0 then (if a0 ≤ 1114111 then (if a0 < 55296 then (some true) else (some (decide (a0 > 57343)))) else (some false)) else (some false)
set_option maxHeartbeats 8000000 in
set_option maxRecDepth 100000 in
theorem zce.calls (a0 : Int) (r : Bool) (w : World) (h : zce.f a0 = some r) :
 Calls Try.prog 49 #[.int .i64 a0] w fun e w' => e = .returned (.bool r) ∧ zib w w' := by
 have H : (if a0 ≥ 0 then (if a0 ≤ 1114111 then (if a0 < 55296 then (some true) else (some (decide (a0 > 57343)))) else (some false)) else (some false)) = some r := h; clear h; by_cases c2 : a0 ≥ 0
 · rw [if_pos c2] at H; have c2b0 : decide (0 ≤ a0) = true := decide_eq_true c2; clear c2; by_cases c3 : a0 ≤ 1114111
   · rw [if_pos c3] at H; have c3b0 : decide (a0 ≤ 1114111) = true := decide_eq_true c3; clear c3; by_cases c4 : a0 < 55296
     · rw [if_pos c4] at H; have c4b0 : decide (a0 < 55296) = true := decide_eq_true c4; clear c4; obtain rfl := Option.some.inj H; go_enter Try.func49, Try.ntmps49; go_wp2; go_ret; exact ⟨by first | rfl | (simp; done) | (simp [*]; done), by repeat (first | exact zib.refl _ | apply zib.step)⟩
     · rw [if_neg c4] at H; have c4b0 : decide (a0 < 55296) = false := decide_eq_false c4; clear c4; obtain rfl := Option.some.inj H; go_enter Try.func49, Try.ntmps49; go_wp2; go_ret; exact ⟨by first | rfl | (simp; done) | (simp [*]; done), by repeat (first | exact zib.refl _ | apply zib.step)⟩
   · rw [if_neg c3] at H; have c3b0 : decide (a0 ≤ 1114111) = false := decide_eq_false c3; clear c3; obtain rfl := Option.some.inj H; go_enter Try.func49, Try.ntmps49; go_wp2; go_ret; exact ⟨by first | rfl | (simp; done) | (simp [*]; done), by repeat (first | exact zib.refl _ | apply zib.step)⟩
 · rw [if_neg c2] at H; have c2b0 : decide (0 ≤ a0) = false := decide_eq_false c2; clear c2; obtain rfl := Option.some.inj H; go_enter Try.func49, Try.ntmps49; go_wp2; go_ret; exact ⟨by first | rfl | (simp; done) | (simp [*]; done), by repeat (first | exact zib.refl _ | apply zib.step)⟩
mutual
def znb.j0 : Nat → ByteArray → Int → Int → Bool → Option (Int × Int)
 | 0, _, _, _, _ => none
 | k + 1, x0, x4, x5, x22 => if x22 = true then (some ((-1), 0)) else (znb.l0 k x0 x4 x5 1)
def znb.l0 : Nat → ByteArray → Int → Int → Int → Option (Int × Int)
 | 0, _, _, _, _ => none
 | k + 1, x0, x4, x5, x6 => if x6 < x4 then (if 0 ≤ x6 then (if x6 < (x0.size : Int) then (if (Go.bits .and .u8 (bt x0 x6) 192) = 128 then (znb.l0 k x0 x4 (Go.bits .or .i64 (wrap64 (x5 * 64)) (wrap64 (Go.bits .and .u8 (bt x0 x6) 63))) (wrap64 (x6 + 1))) else (some ((-1), 0))) else (none)) else (none)) else ((utf_least.f x4).bind fun t103 => (if x5 < t103 then (some ((-1), 0)) else ((zce.f x5).bind fun t104 => (if t104 = true then (some (x5, x4)) else (some ((-1), 0))))))
end
def znb.f (k : Nat) (a0 : ByteArray) : Option (Int × Int) := if a0.toList = ([] : List UInt8) then (some ((-1), 0)) else (if 0 < (a0.size : Int) then ((zec.f k (bt a0 0)).bind fun bt101 => (if bt101.1 = 0 then (znb.j0 k a0 bt101.1 bt101.2 true) else (znb.j0 k a0 bt101.1 bt101.2 (decide ((a0.size : Int) < bt101.1))))) else (none))
theorem znb.zyb : ∀ k, (∀ y0 y1 y2 y3, LeO (znb.j0 k y0 y1 y2 y3) (znb.j0 (k + 1) y0 y1 y2 y3)) ∧ (∀ y0 y1 y2 y3, LeO (znb.l0 k y0 y1 y2 y3) (znb.l0 (k + 1) y0 y1 y2 y3))
 | 0 => ⟨fun _ _ _ _ r h => by simp [znb.j0] at h, fun _ _ _ _ r h => by simp [znb.l0] at h⟩
 | k + 1 => by
  obtain ⟨ih0, ih1⟩ := znb.zyb k
  refine ⟨?_, ?_⟩
  · intro y0 y1 y2 y3
    unfold znb.j0
    repeat' first | (with_reducible exact ih0 _ _ _ _) | (with_reducible exact ih1 _ _ _ _) | (with_reducible exact zec.mono _ _) | (with_reducible exact LeO.refl _) | (with_reducible exact LeO.none _) | (with_reducible refine LeO.ite ?_ ?_) | (with_reducible refine LeO.bind ?_ (fun _ => ?_)) | exact ih0 _ _ _ _ | exact ih1 _ _ _ _ | exact zec.mono _ _ | exact LeO.none _ | refine LeO.ite ?_ ?_ | refine LeO.bind ?_ (fun _ => ?_)
  · intro y0 y1 y2 y3
    unfold znb.l0
    repeat' first | (with_reducible exact ih0 _ _ _ _) | (with_reducible exact ih1 _ _ _ _) | (with_reducible exact zec.mono _ _) | (with_reducible exact LeO.refl _) | (with_reducible exact LeO.none _) | (with_reducible refine LeO.ite ?_ ?_) | (with_reducible refine LeO.bind ?_ (fun _ => ?_)) | exact ih0 _ _ _ _ | exact ih1 _ _ _ _ | exact zec.mono _ _ | exact LeO.none _ | refine LeO.ite ?_ ?_ | refine LeO.bind ?_ (fun _ => ?_)
theorem znb.mono : ∀ a0 k, LeO (znb.f k a0) (znb.f (k + 1) a0) := by
 intro a0 k
 obtain ⟨ih0, ih1⟩ := znb.zyb k
 unfold znb.f
 repeat' first | (with_reducible exact ih0 _ _ _ _) | (with_reducible exact ih1 _ _ _ _) | (with_reducible exact zec.mono _ _) | (with_reducible exact LeO.refl _) | (with_reducible exact LeO.none _) | (with_reducible refine LeO.ite ?_ ?_) | (with_reducible refine LeO.bind ?_ (fun _ => ?_)) | exact ih0 _ _ _ _ | exact ih1 _ _ _ _ | exact zec.mono _ _ | exact LeO.none _ | refine LeO.ite ?_ ?_ | refine LeO.bind ?_ (fun _ => ?_)
set_option maxHeartbeats 8000000 in
set_option maxRecDepth 100000 in
theorem znb.calls (k : Nat) (a0 : ByteArray) (r1 : Int) (r2 : Int) (w : World) (h : znb.f k a0 = some (r1, r2)) :
 Calls Try.prog 31 #[.string a0] w fun e w' => e = .returned (.tuple #[.int .i64 r1, .int .i64 r2]) ∧ zib w w' := by
 have H : (if a0.toList = ([] : List UInt8) then (some ((-1), 0)) else (if 0 < (a0.size : Int) then ((zec.f k (bt a0 0)).bind fun bt101 => (if bt101.1 = 0 then (znb.j0 k a0 bt101.1 bt101.2 true) else (znb.j0 k a0 bt101.1 bt101.2 (decide ((a0.size : Int) < bt101.1))))) else (none))) = some (r1, r2) := h; clear h; by_cases c2 : a0.toList = ([] : List UInt8)
 · rw [if_pos c2] at H; have c2b0 : (a0.toList == ([] : List UInt8)) = true := beq_iff_eq.mpr c2; have c2b1 : (a0.toList != ([] : List UInt8)) = false := bne_eq_false_iff_eq.mpr c2; clear c2; simp only [Option.some.injEq, Prod.mk.injEq] at H; obtain ⟨rfl, rfl⟩ := H; go_enter Try.func31, Try.ntmps31; go_wp2; go_ret2; exact ⟨by first | rfl | (simp; done) | (simp [*]; done), by repeat (first | exact zib.refl _ | apply zib.step)⟩
 · rw [if_neg c2] at H; have c2b0 : (a0.toList == ([] : List UInt8)) = false := beq_eq_false_iff_ne.mpr c2; have c2b1 : (a0.toList != ([] : List UInt8)) = true := bne_iff_ne.mpr c2; by_cases c3 : 0 < (a0.size : Int)
   · rw [if_pos c3] at H; have c3b0 : decide (0 < (a0.size : Int)) = true := decide_eq_true c3; have c3b1 : decide (0 < a0.size) = true := decide_eq_true (by omega); clear c3; replace H := Option.bind_eq_some_iff.mp H; obtain ⟨⟨t101, t102⟩, A50, H⟩ := H; replace H : (if t101 = 0 then (znb.j0 k a0 t101 t102 true) else (znb.j0 k a0 t101 t102 (decide ((a0.size : Int) < t101)))) = some (r1, r2) := H; have A5 := zea.mk A50; clear A50; have HC6 := zea.mk H; clear H
     have p4 : 0 ≤ (0 : Int) := (by omega)
     have q4 : 0 < a0.size := (by have : (0 : Int) < (a0.size : Int) := of_decide_eq_true (by with_reducible assumption); omega)
     have hx4 : ∀ h : 0 < a0.size, ((a0[0]'h).toNat : Int) = bt a0 0 := bt_at a0 0; clear p4; have qi4 : (0 < (a0.size : Int)) = True := eq_true (of_decide_eq_true (by with_reducible assumption)); replace q4 := eq_true q4; go_enter Try.func31, Try.ntmps31
     go_upto_region 4 with (first | ((with_reducible refine zab (f := 47) rfl ?_); refine zhc (some 12) rfl rfl Try.func47 (by kernel_rfl) rfl #[.int .u8 (bt a0 0)] rfl (by (try simp only [List.map_toArray, List.map_cons, List.map_nil]); first | done | rfl | (simp only [List.length_drop, List.length_take]; rfl)) ?_; (with_reducible refine (zec.calls k (bt a0 0) t101 t102 _ A5.out).mono ?_); rintro e w' ⟨rfl, ⟨nd, rfl⟩⟩; refine ⟨_, rfl, ?_⟩))
     (try simp only [zss_]); go_cut [22] (fun v22 wc => ∃ (kq : Nat) (x22_5 : Bool), v22 = .bool x22_5 ∧ zea (znb.j0 kq a0 t101 t102 x22_5 = some (r1, r2)) ∧ zea (kq ≤ k) ∧ zib w wc)
     case first =>
      have H := HC6.out; clear HC6; by_cases c7 : t101 = 0
      · rw [if_pos c7] at H; have c7b0 : (t101 == 0) = true := beq_iff_eq.mpr c7; have c7b1 : (t101 != 0) = false := bne_eq_false_iff_eq.mpr c7; clear c7; (first | rw [c7b0] | (simp only [i64_w, i32_w]; rw [c7b0]) | skip); have H' := zea.mk H; clear H; go_wp2; go_meet
        case rel => exact ⟨_, (true), (by first | rfl | (simp [*]; done)), H', ⟨by first | omega | exact Nat.le_refl _⟩, by repeat (first | exact zib.refl _ | apply zib.step)⟩
      · rw [if_neg c7] at H; have c7b0 : (t101 == 0) = false := beq_eq_false_iff_ne.mpr c7; have c7b1 : (t101 != 0) = true := bne_iff_ne.mpr c7; (first | rw [c7b0] | (simp only [i64_w, i32_w]; rw [c7b0]) | skip); have H' := zea.mk H; clear H; go_wp2; go_meet
        case rel => exact ⟨_, (decide ((a0.size : Int) < t101)), (by first | rfl | (simp [*]; done)), H', ⟨by first | omega | exact Nat.le_refl _⟩, by repeat (first | exact zib.refl _ | apply zib.step)⟩
     case rest =>
      clear HC6
      (try clear c2); (try clear c2b0); (try clear c2b1); (try clear p2); (try clear c3); (try clear c3b0); (try clear c3b1); (try clear c4); (try clear p4); (try clear q4); (try clear hx4); (try clear qi4); (try clear c7); (try clear c7b0); (try clear c7b1); (try clear p4); (try clear q4)
      obtain ⟨kq, x22_5, rfl, HA, HJ5, ⟨mc5, rfl⟩⟩ := hcut
      cases kq with
      | zero => exact absurd HA.out (by simp [znb.j0])
      | succ kj5 =>
       have H := HA.out; clear HA; simp only [znb.j0] at H; by_cases c8 : x22_5 = true
       · subst c8; have H1 : (some ((-1), 0)) = some (r1, r2) := by rw [if_pos rfl] at H; exact H
         clear H; have H := H1; clear H1; simp only [Option.some.injEq, Prod.mk.injEq] at H; obtain ⟨rfl, rfl⟩ := H; go_wp2; go_ret2; exact ⟨by first | rfl | (simp; done) | (simp [*]; done), by repeat (first | exact zib.refl _ | apply zib.step)⟩
       · replace c8 := Bool.eq_false_iff.mpr c8; subst c8; have H1 : (znb.l0 kj5 a0 t101 t102 1) = some (r1, r2) := by rw [if_neg (show ¬ (false = true) by decide)] at H; exact H
         clear H; have H := H1; clear H1; have H' := zea.mk H; clear H; go_wp2; (try simp only [zss_]); go_loopg [5, 6] kj5 (fun kq v5 v6 w' => ∃ (x5_2 : Int) (x6_2 : Int), v5 = .int .i64 x5_2 ∧ v6 = .int .i64 x6_2 ∧ zea (znb.l0 kq a0 t101 x5_2 x6_2 = some (r1, r2)) ∧ zea (kq ≤ kj5) ∧ zib w w')
         case atStart => exact ⟨(t102), (1), (by first | rfl | (simp [*]; done)), (by first | rfl | (simp [*]; done)), H', ⟨Nat.le_refl _⟩, by repeat (first | exact zib.refl _ | apply zib.step)⟩
         case round =>
          clear H'
          (try clear c2); (try clear c2b0); (try clear c2b1); (try clear p2); (try clear c3); (try clear c3b0); (try clear c3b1); (try clear c4); (try clear p4); (try clear q4); (try clear hx4); (try clear qi4); (try clear c5); (try clear c7); (try clear c7b0); (try clear c7b1); (try clear c8); (try clear p2); (try clear p4); (try clear q4)
          obtain ⟨x5_2, x6_2, rfl, rfl, HA, HK2, ⟨m2, rfl⟩⟩ := hrel
          cases gk with
          | zero => exact absurd HA.out (by simp [znb.l0])
          | succ k2 =>
           have H := HA.out; clear HA; simp only [znb.l0] at H; by_cases c9 : x6_2 < t101
           · rw [if_pos c9] at H; have c9b0 : decide (x6_2 < t101) = true := decide_eq_true c9; clear c9; by_cases c10 : 0 ≤ x6_2
             · rw [if_pos c10] at H; have c10b0 : decide (0 ≤ x6_2) = true := decide_eq_true c10; clear c10; by_cases c11 : x6_2 < (a0.size : Int)
               · rw [if_pos c11] at H; have c11b0 : decide (x6_2 < (a0.size : Int)) = true := decide_eq_true c11; clear c11; by_cases c13 : (Go.bits .and .u8 (bt a0 x6_2) 192) = 128
                 · rw [if_pos c13] at H; have c13b0 : ((Go.bits .and .u8 (bt a0 x6_2) 192) == 128) = true := beq_iff_eq.mpr c13; have c13b1 : ((Go.bits .and .u8 (bt a0 x6_2) 192) != 128) = false := bne_eq_false_iff_eq.mpr c13; clear c13; have H' := zea.mk H; clear H; have p12 : 0 ≤ (x6_2 : Int) := of_decide_eq_true (by with_reducible assumption); have q12 : x6_2 < (a0.size : Int) := of_decide_eq_true (by with_reducible assumption); have hx12 := bt_at a0 x6_2; replace p12 := eq_true p12; replace q12 := eq_true q12; have p14 : 0 ≤ (x6_2 : Int) := of_decide_eq_true (by with_reducible assumption); have q14 : x6_2 < (a0.size : Int) := of_decide_eq_true (by with_reducible assumption); have hx14 := bt_at a0 x6_2; replace p14 := eq_true p14; replace q14 := eq_true q14; go_wp2; go_roundg k2
                   case measure => have := HJ5.out; have := HK2.out; omega
                   case rel => exact ⟨(Go.bits .or .i64 (wrap64 (x5_2 * 64)) (wrap64 (Go.bits .and .u8 (bt a0 x6_2) 63))), (wrap64 (x6_2 + 1)), (by first | rfl | (simp [*]; done)), (by first | rfl | (simp [*]; done)), H', ⟨by have := HJ5.out; have := HK2.out; omega⟩, by repeat (first | exact zib.refl _ | apply zib.step)⟩
                 · rw [if_neg c13] at H; have c13b0 : ((Go.bits .and .u8 (bt a0 x6_2) 192) == 128) = false := beq_eq_false_iff_ne.mpr c13; have c13b1 : ((Go.bits .and .u8 (bt a0 x6_2) 192) != 128) = true := bne_iff_ne.mpr c13; simp only [Option.some.injEq, Prod.mk.injEq] at H; obtain ⟨rfl, rfl⟩ := H; have p12 : 0 ≤ (x6_2 : Int) := of_decide_eq_true (by with_reducible assumption); have q12 : x6_2 < (a0.size : Int) := of_decide_eq_true (by with_reducible assumption); have hx12 := bt_at a0 x6_2; replace p12 := eq_true p12; replace q12 := eq_true q12; go_wp2; go_ret2; exact ⟨by first | rfl | (simp; done) | (simp [*]; done), by repeat (first | exact zib.refl _ | apply zib.step)⟩
               · rw [if_neg c11] at H; exact absurd H (by simp)
             · rw [if_neg c10] at H; exact absurd H (by simp)
           · rw [if_neg c9] at H; have c9b0 : decide (x6_2 < t101) = false := decide_eq_false c9; clear c9; replace H := Option.bind_eq_some_iff.mp H; obtain ⟨t103, A150, H⟩ := H; replace H : (if x5_2 < t103 then (some ((-1), 0)) else ((zce.f x5_2).bind fun t104 => (if t104 = true then (some (x5_2, t101)) else (some ((-1), 0))))) = some (r1, r2) := H; have A15 := zea.mk A150; clear A150; by_cases c16 : x5_2 < t103
             · rw [if_pos c16] at H; have c16b0 : decide (x5_2 < t103) = true := decide_eq_true c16; clear c16; simp only [Option.some.injEq, Prod.mk.injEq] at H; obtain ⟨rfl, rfl⟩ := H; go_wp2_with (first | ((with_reducible refine zab (f := 48) rfl ?_); refine zhc (some 43) rfl rfl Try.func48 (by kernel_rfl) rfl #[.int .i64 t101] rfl (by (try simp only [List.map_toArray, List.map_cons, List.map_nil]); first | done | rfl | (simp only [List.length_drop, List.length_take]; rfl)) ?_; (with_reducible refine (utf_least.calls t101 t103 _ A15.out).mono ?_); rintro e w' ⟨rfl, ⟨nd, rfl⟩⟩; refine ⟨_, rfl, ?_⟩)); go_ret2; exact ⟨by first | rfl | (simp; done) | (simp [*]; done), by repeat (first | exact zib.refl _ | apply zib.step)⟩
             · rw [if_neg c16] at H; have c16b0 : decide (x5_2 < t103) = false := decide_eq_false c16; clear c16; replace H := Option.bind_eq_some_iff.mp H; obtain ⟨t104, A170, H⟩ := H; replace H : (if t104 = true then (some (x5_2, t101)) else (some ((-1), 0))) = some (r1, r2) := H; have A17 := zea.mk A170; clear A170; by_cases c18 : t104 = true
               · subst c18; have H1 : (some (x5_2, t101)) = some (r1, r2) := by rw [if_pos rfl] at H; exact H
                 clear H; have H := H1; clear H1; simp only [Option.some.injEq, Prod.mk.injEq] at H; obtain ⟨rfl, rfl⟩ := H; go_wp2_with (first | ((with_reducible refine zab (f := 48) rfl ?_); refine zhc (some 43) rfl rfl Try.func48 (by kernel_rfl) rfl #[.int .i64 t101] rfl (by (try simp only [List.map_toArray, List.map_cons, List.map_nil]); first | done | rfl | (simp only [List.length_drop, List.length_take]; rfl)) ?_; (with_reducible refine (utf_least.calls t101 t103 _ A15.out).mono ?_); rintro e w' ⟨rfl, ⟨nd, rfl⟩⟩; refine ⟨_, rfl, ?_⟩) | (go_at_call 49; (with_reducible refine (zce.calls x5_2 true _ A17.out).mono ?_); rintro e w' ⟨rfl, ⟨nd, rfl⟩⟩)); go_ret2; exact ⟨by first | rfl | (simp; done) | (simp [*]; done), by repeat (first | exact zib.refl _ | apply zib.step)⟩
               · replace c18 := Bool.eq_false_iff.mpr c18; subst c18; have H1 : (some ((-1), 0)) = some (r1, r2) := by rw [if_neg (show ¬ (false = true) by decide)] at H; exact H
                 clear H; have H := H1; clear H1; simp only [Option.some.injEq, Prod.mk.injEq] at H; obtain ⟨rfl, rfl⟩ := H; go_wp2_with (first | ((with_reducible refine zab (f := 48) rfl ?_); refine zhc (some 43) rfl rfl Try.func48 (by kernel_rfl) rfl #[.int .i64 t101] rfl (by (try simp only [List.map_toArray, List.map_cons, List.map_nil]); first | done | rfl | (simp only [List.length_drop, List.length_take]; rfl)) ?_; (with_reducible refine (utf_least.calls t101 t103 _ A15.out).mono ?_); rintro e w' ⟨rfl, ⟨nd, rfl⟩⟩; refine ⟨_, rfl, ?_⟩) | (go_at_call 49; (with_reducible refine (zce.calls x5_2 false _ A17.out).mono ?_); rintro e w' ⟨rfl, ⟨nd, rfl⟩⟩)); go_ret2; exact ⟨by first | rfl | (simp; done) | (simp [*]; done), by repeat (first | exact zib.refl _ | apply zib.step)⟩
   · rw [if_neg c3] at H; exact absurd H (by simp)
def zvc.l0 : Nat → ByteArray → List Int → Option (List Int × Bool)
 | 0, _, _ => none
 | k + 1, x0, x4 => if x0.toList = ([] : List UInt8) then (some (x4, true)) else ((znb.f k x0).bind fun bt105 => (if bt105.2 = 0 then (some (([] : List Int), false)) else (if x4.length < 17592186044416 then (if 0 ≤ bt105.2 then (if bt105.2 ≤ (x0.size : Int) then (zvc.l0 k (x0.extract (bt105.2 : Int).toNat x0.size) (x4 ++ [bt105.1])) else (none)) else (none)) else (none))))
def zvc.f (k : Nat) (a0 : ByteArray) : Option (List Int × Bool) := zvc.l0 k a0 ([] : List Int)
theorem zvc.zyb : ∀ k, (∀ y0 y1, LeO (zvc.l0 k y0 y1) (zvc.l0 (k + 1) y0 y1))
 | 0 => fun _ _ r h => by simp [zvc.l0] at h
 | k + 1 => by
  have ih0 := zvc.zyb k
  · intro y0 y1
    unfold zvc.l0
    repeat' first | (with_reducible exact ih0 _ _) | (with_reducible exact znb.mono _ _) | (with_reducible exact LeO.refl _) | (with_reducible exact LeO.none _) | (with_reducible refine LeO.ite ?_ ?_) | (with_reducible refine LeO.bind ?_ (fun _ => ?_)) | exact ih0 _ _ | exact znb.mono _ _ | exact LeO.none _ | refine LeO.ite ?_ ?_ | refine LeO.bind ?_ (fun _ => ?_)
theorem zvc.mono : ∀ a0 k, LeO (zvc.f k a0) (zvc.f (k + 1) a0) := by
 intro a0 k
 have ih0 := zvc.zyb k
 unfold zvc.f
 repeat' first | (with_reducible exact ih0 _ _) | (with_reducible exact znb.mono _ _) | (with_reducible exact LeO.refl _) | (with_reducible exact LeO.none _) | (with_reducible refine LeO.ite ?_ ?_) | (with_reducible refine LeO.bind ?_ (fun _ => ?_)) | exact ih0 _ _ | exact znb.mono _ _ | exact LeO.none _ | refine LeO.ite ?_ ?_ | refine LeO.bind ?_ (fun _ => ?_)
set_option maxHeartbeats 8000000 in
set_option maxRecDepth 100000 in
theorem zvc.calls (k : Nat) (a0 : ByteArray) (r1 : List Int) (r2 : Bool) (w : World) (h : zvc.f k a0 = some (r1, r2)) :
 Calls Try.prog 62 #[.string a0] w fun e w' => ∃ v0_ : Value, e = .returned (.tuple #[v0_, .bool r2]) ∧ Kd.R (Kd.int .i64) 3 w' w.heap.size (fun _ => True) v0_ r1 ∧ Below w.heap.size w w' := by
 have HB := zea.mk (Below.refl w.heap.size w); have H : (zvc.l0 k a0 ([] : List Int)) = some (r1, r2) := h; clear h; have H' := zea.mk H; clear H; go_enter Try.func62, Try.ntmps62; go_wp2; (try simp only [zss_]); go_loopg [0, 4] k (fun kq v0 v4 w' => ∃ (x0_1 : ByteArray) (x4_1 : List Int), v0 = .string x0_1 ∧ zea (zvc.l0 kq x0_1 x4_1 = some (r1, r2)) ∧ zea (kq ≤ k) ∧ zea (Kd.R (Kd.int .i64) 3 w' w.heap.size (fun _ => True) v4 x4_1) ∧ zea (Below w.heap.size w w'))
 case atStart => exact ⟨(a0), (([] : List Int)), (by first | rfl | (simp [*]; done)), H', ⟨Nat.le_refl _⟩, ⟨by first | exact Kd.R_nil _ _ _ _ _ | exact Kd.N_nil _ _ _ _ _ | exact Kd.V_nil _ _ _ _ _ | exact Kd.Q_nil _ _ _ _ _ | exact Kd.S_nil _ _ _ _ _⟩, ⟨by repeat (with_reducible first | exact HB.out | apply zfa | apply zca | apply zda)⟩⟩
 case round =>
  clear H'; obtain ⟨x0_1, x4_1, rfl, HA, HK1, HO_4, HB⟩ := hrel
  cases gk with
  | zero => exact absurd HA.out (by simp [zvc.l0])
  | succ k1 =>
   have H := HA.out; clear HA; simp only [zvc.l0] at H; by_cases c2 : x0_1.toList = ([] : List UInt8)
   · rw [if_pos c2] at H; have c2b0 : (x0_1.toList == ([] : List UInt8)) = true := beq_iff_eq.mpr c2; have c2b1 : (x0_1.toList != ([] : List UInt8)) = false := bne_eq_false_iff_eq.mpr c2; clear c2; simp only [Option.some.injEq, Prod.mk.injEq] at H; obtain ⟨rfl, rfl⟩ := H; go_wp2; go_ret2; exact ⟨_, by first | rfl | (simp [zra, zqa] <;> rfl) | (simp [*, zra, zqa] <;> rfl), by (with_reducible repeat (first | apply Kd.zpa | apply Kd.zoa | apply Kd.zwa)); exact HO_4.out, by repeat (with_reducible first | exact HB.out | apply zfa | apply zca | apply zda)⟩
   · rw [if_neg c2] at H; have c2b0 : (x0_1.toList == ([] : List UInt8)) = false := beq_eq_false_iff_ne.mpr c2; have c2b1 : (x0_1.toList != ([] : List UInt8)) = true := bne_iff_ne.mpr c2; replace H := Option.bind_eq_some_iff.mp H; obtain ⟨⟨t105, t106⟩, A30, H⟩ := H; replace H : (if t106 = 0 then (some (([] : List Int), false)) else (if x4_1.length < 17592186044416 then (if 0 ≤ t106 then (if t106 ≤ (x0_1.size : Int) then (zvc.l0 k1 (x0_1.extract (t106 : Int).toNat x0_1.size) (x4_1 ++ [t105])) else (none)) else (none)) else (none))) = some (r1, r2) := H; have A3 := zea.mk A30; clear A30; by_cases c4 : t106 = 0
     · rw [if_pos c4] at H; have c4b0 : (t106 == 0) = true := beq_iff_eq.mpr c4; have c4b1 : (t106 != 0) = false := bne_eq_false_iff_eq.mpr c4; clear c4; simp only [Option.some.injEq, Prod.mk.injEq] at H; obtain ⟨rfl, rfl⟩ := H; go_wp2_with (first | ((with_reducible refine zab (f := 31) rfl ?_); refine zhc (some 11) rfl rfl Try.func31 (by kernel_rfl) rfl #[.string x0_1] rfl (by (try simp only [List.map_toArray, List.map_cons, List.map_nil]); first | done | rfl | (simp only [List.length_drop, List.length_take]; rfl)) ?_; (with_reducible refine (znb.calls k1 x0_1 t105 t106 _ A3.out).mono ?_); rintro e w' ⟨rfl, ⟨nd, rfl⟩⟩; refine ⟨_, rfl, ?_⟩)); go_ret2; exact ⟨_, by first | rfl | (simp [zra, zqa] <;> rfl) | (simp [*, zra, zqa] <;> rfl), by first | exact Kd.R_nil _ _ _ _ _ | exact Kd.N_nil _ _ _ _ _ | exact Kd.V_nil _ _ _ _ _ | exact Kd.Q_nil _ _ _ _ _ | exact Kd.S_nil _ _ _ _ _, by repeat (with_reducible first | exact HB.out | apply zfa | apply zca | apply zda)⟩
     · rw [if_neg c4] at H; have c4b0 : (t106 == 0) = false := beq_eq_false_iff_ne.mpr c4; have c4b1 : (t106 != 0) = true := bne_iff_ne.mpr c4; by_cases c5 : x4_1.length < 17592186044416
       · rw [if_pos c5] at H; have LMc5 := zea.mk c5; clear c5
         obtain ⟨y107, hy107⟩ : ∃ y_ : List Int, y_ = (x4_1 ++ [t105]) := ⟨_, rfl⟩
         replace H : (if 0 ≤ t106 then (if t106 ≤ (x0_1.size : Int) then (zvc.l0 k1 (x0_1.extract (t106 : Int).toNat x0_1.size) y107) else (none)) else (none)) = some (r1, r2) := by first | (rw [hy107]; with_reducible exact H) | (have H2_ := (Option.bind_some _ _).symm.trans H; rw [hy107]; with_reducible exact H2_) | (have H2_ := (Option.bind_some _ _).symm.trans H; with_reducible exact H2_) | with_reducible exact H | (rw [hy107]; exact H) | exact H
         have Ny107 := zea.mk hy107; clear hy107; by_cases c6 : 0 ≤ t106
         · rw [if_pos c6] at H; have c6b0 := eq_true c6; have c6b1 : decide (0 ≤ t106) = true := decide_eq_true c6; clear c6; by_cases c7 : t106 ≤ (x0_1.size : Int)
           · rw [if_pos c7] at H; have c7b0 := eq_true c7; have c7b1 : decide (t106 ≤ (x0_1.size : Int)) = true := decide_eq_true c7; clear c7; have H' := zea.mk H; clear H; go_wp2_with (first | ((with_reducible refine zab (f := 31) rfl ?_); refine zhc (some 11) rfl rfl Try.func31 (by kernel_rfl) rfl #[.string x0_1] rfl (by (try simp only [List.map_toArray, List.map_cons, List.map_nil]); first | done | rfl | (simp only [List.length_drop, List.length_take]; rfl)) ?_; (with_reducible refine (znb.calls k1 x0_1 t105 t106 _ A3.out).mono ?_); rintro e w' ⟨rfl, ⟨nd, rfl⟩⟩; refine ⟨_, rfl, ?_⟩) | ((with_reducible refine zqc (b := .append) (xs := #[.tmp 16, .tmp 18]) rfl ?_); at_builtin; refine Kd.zkd (Kd.int .i64) (w0 := w) w.heap.size rfl (.tmp 16) (.tmp 18) 27 3 (.int .i64 0) 8 rfl Try.underlying27 info3 rfl (by decide) (by omega) u4 x4_1 t105 [.int .i64 t105] (fun _ => True) (fun _ => False) rfl rfl ?aP (fun _ hk => hk.elim) ?aF ?aO ?aB ?aS ?aL ?_; (case aP => exact rfl); (case aB => exact (by repeat (with_reducible first | exact HB.out | apply zfa | apply zca | apply zda))); (case aF => exact (fun _ _ => trivial)); (case aO => exact (by (with_reducible repeat (first | apply Kd.zpa | apply Kd.zoa | apply Kd.zwa)); exact HO_4.out)); (case aS => exact (zdb (by repeat (with_reducible first | exact HB.out | apply zfa | apply zca | apply zda)))); (case aL => have := LMc5.out; omega); intro v108 w8 ho hb hg hat; rw [← Ny107.out] at ho; have n0_ := zea.mk (hb); have n1_ := zea.mk (ho); clear HB; clear HO_4; have HB := n0_; have HO109 := n1_; clear n0_ n1_; clear ho hb hg hat)); go_roundg k1
             case measure => have := HK1.out; omega
             case rel => exact ⟨(x0_1.extract (t106 : Int).toNat x0_1.size), (y107), (by first | rfl | (simp [*]; done)), H', ⟨by have := HK1.out; omega⟩, ⟨by (with_reducible repeat (first | apply Kd.zpa | apply Kd.zoa | apply Kd.zwa)); exact HO109.out⟩, ⟨by repeat (with_reducible first | exact HB.out | apply zfa | apply zca | apply zda)⟩⟩
           · rw [if_neg c7] at H; exact absurd H (by simp)
         · rw [if_neg c6] at H; exact absurd H (by simp)
       · rw [if_neg c5] at H; exact absurd H (by simp)
end Go.Proofs.Ytiplbhjllkfemaa.MAll
