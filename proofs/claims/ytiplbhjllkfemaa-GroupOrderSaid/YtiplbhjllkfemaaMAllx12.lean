-- written by mp.py, a program of this session's over the kit's printer
import Derived.Test.YtiplbhjllkfemaaMAllx0
import Derived.Test.YtiplbhjllkfemaaMAllx10
namespace Go.Proofs.Ytiplbhjllkfemaa.MAll
open Go.RowKit Go.Proofs.YtiplbhjllkfemaaW.PrintWords Go.Proofs.YtiplbhjllkfemaaW.PrintLast Go.Proofs.YtiplbhjllkfemaaW.PrintMore
attribute [local go_sem] zxd zvd zqe zpe zjd zid zwd ztd   -- for this text's walks alone
set_option linter.unusedVariables false
set_option linter.unusedSimpArgs false
def zfb.l0 : Nat → List Int → ByteArray → Int → Option (ByteArray × Bool)
 | 0, _, _, _ => none
 | k + 1, x0, x4, x5 => if x5 < (x0.length : Int) then (if 0 ≤ x5 then ((zsc.f (rd x0 x5)).bind fun t315 => (if t315 = true then ((zrc.f (rd x0 x5)).bind fun t317 => (if x4.size + t317.size ≤ 9223372036854775807 then (zfb.l0 k x0 (x4 ++ t317) (wrap64 (x5 + 1))) else (none))) else (some ((⟨#[]⟩ : ByteArray), false)))) else (none)) else (some (x4, true))
def zfb.f (k : Nat) (l0 : List Int) : Option (ByteArray × Bool) := zfb.l0 k l0 (⟨#[]⟩ : ByteArray) 0
theorem zfb.zyb : ∀ k, (∀ y0 y1 y2, LeO (zfb.l0 k y0 y1 y2) (zfb.l0 (k + 1) y0 y1 y2))
 | 0 => fun _ _ _ r h => by simp [zfb.l0] at h
 | k + 1 => by
  have ih0 := zfb.zyb k
  · intro y0 y1 y2
    unfold zfb.l0
    repeat' first | (with_reducible exact ih0 _ _ _) | (with_reducible exact LeO.refl _) | (with_reducible exact LeO.none _) | (with_reducible refine LeO.ite ?_ ?_) | (with_reducible refine LeO.bind ?_ (fun _ => ?_)) | exact ih0 _ _ _ | exact LeO.none _ | refine LeO.ite ?_ ?_ | refine LeO.bind ?_ (fun _ => ?_)
theorem zfb.mono : ∀ a0 k, LeO (zfb.f k a0) (zfb.f (k + 1) a0) := by
 intro a0 k
 have ih0 := zfb.zyb k
 unfold zfb.f
 repeat' first | (with_reducible exact ih0 _ _ _) | (with_reducible exact LeO.refl _) | (with_reducible exact LeO.none _) | (with_reducible refine LeO.ite ?_ ?_) | (with_reducible refine LeO.bind ?_ (fun _ => ?_)) | exact ih0 _ _ _ | exact LeO.none _ | refine LeO.ite ?_ ?_ | refine LeO.bind ?_ (fun _ => ?_)
set_option maxHeartbeats 8000000 in
set_option maxRecDepth 100000 in
theorem zfb.calls (k : Nat) (A0 : Option Addr) (c0 : Nat) (l0 : List Int) (r1 : ByteArray) (r2 : Bool) (w : World) (hr0 : Kd.C (Kd.int .i64) w A0 l0.length l0) (hc0 : l0.length ≤ c0) (h : zfb.f k l0 = some (r1, r2)) :
 Calls Try.prog 27 #[.slice A0 l0.length c0] w fun e w' => e = .returned (.tuple #[.string r1, .bool r2]) ∧ Below w.heap.size w w' := by
 have HR0 := zea.mk hr0; have HC0 := zea.mk hc0; clear hr0 hc0; have HB := zea.mk (Below.refl w.heap.size w); have H : (zfb.l0 k l0 (⟨#[]⟩ : ByteArray) 0) = some (r1, r2) := h; clear h; have H' := zea.mk H; clear H; go_enter Try.func27, Try.ntmps27; go_wp2; (try simp only [zss_]); go_loopg [4, 5] k (fun kq v4 v5 w' => ∃ (x4_1 : ByteArray) (x5_1 : Int), v4 = .string x4_1 ∧ v5 = .int .i64 x5_1 ∧ zea (zfb.l0 kq l0 x4_1 x5_1 = some (r1, r2)) ∧ zea (kq ≤ k) ∧ zea (Below w.heap.size w w'))
 case atStart => exact ⟨((⟨#[]⟩ : ByteArray)), (0), (by first | rfl | (simp [*]; done)), (by first | rfl | (simp [*]; done)), H', ⟨Nat.le_refl _⟩, ⟨by repeat (with_reducible first | exact HB.out | apply zfa | apply zca | apply zda)⟩⟩
 case round =>
  clear H'; obtain ⟨x4_1, x5_1, rfl, rfl, HA, HK1, HB⟩ := hrel
  cases gk with
  | zero => exact absurd HA.out (by simp [zfb.l0])
  | succ k1 =>
   have H := HA.out; clear HA; simp only [zfb.l0] at H; by_cases c2 : x5_1 < (l0.length : Int)
   · rw [if_pos c2] at H; have c2b0 : decide (x5_1 < (l0.length : Int)) = true := decide_eq_true c2; clear c2; by_cases c3 : 0 ≤ x5_1
     · rw [if_pos c3] at H; have c3b0 : decide (0 ≤ x5_1) = true := decide_eq_true c3; clear c3; replace H := Option.bind_eq_some_iff.mp H; obtain ⟨t315, A40, H⟩ := H; replace H : (if t315 = true then ((zrc.f (rd l0 x5_1)).bind fun t317 => (if x4_1.size + t317.size ≤ 9223372036854775807 then (zfb.l0 k1 l0 (x4_1 ++ t317) (wrap64 (x5_1 + 1))) else (none))) else (some ((⟨#[]⟩ : ByteArray), false))) = some (r1, r2) := H; have A4 := zea.mk A40; clear A40; by_cases c5 : t315 = true
       · subst c5; have H1 : ((zrc.f (rd l0 x5_1)).bind fun t317 => (if x4_1.size + t317.size ≤ 9223372036854775807 then (zfb.l0 k1 l0 (x4_1 ++ t317) (wrap64 (x5_1 + 1))) else (none))) = some (r1, r2) := by rw [if_pos rfl] at H; exact H
         clear H; have H := H1; clear H1; replace H := Option.bind_eq_some_iff.mp H; obtain ⟨t317, A60, H⟩ := H; replace H : (if x4_1.size + t317.size ≤ 9223372036854775807 then (zfb.l0 k1 l0 (x4_1 ++ t317) (wrap64 (x5_1 + 1))) else (none)) = some (r1, r2) := H; have A6 := zea.mk A60; clear A60; by_cases c7 : x4_1.size + t317.size ≤ 9223372036854775807
         · rw [if_pos c7] at H; have c7b0 := eq_true c7; have c7b1 : decide (x4_1.size + t317.size ≤ 9223372036854775807) = true := decide_eq_true c7; (try have c7b2 : (9223372036854775807 < x4_1.size + t317.size) = False := eq_false (Nat.not_lt.2 c7)); have H' := zea.mk H; clear H; have p314 : 0 ≤ (x5_1 : Int) := of_decide_eq_true (by with_reducible assumption); have q314 : x5_1 < (l0.length : Int) := of_decide_eq_true (by with_reducible assumption); obtain ⟨ad314, e314, hx314_0⟩ := Kd.zte HR0.out x5_1 p314 q314; cases e314; replace hx314_0 := (HB.out.cell (World.block_lt_of_cell? w _ hx314_0)).trans hx314_0; replace p314 := eq_true p314; replace q314 := eq_true q314; go_wp2_with (first | ((with_reducible refine zab (f := 41) rfl ?_); refine zhc (some 16) rfl rfl Try.func41 (by kernel_rfl) rfl #[.int .i64 (rd l0 x5_1)] rfl (by (try simp only [List.map_toArray, List.map_cons, List.map_nil]); first | done | rfl | (simp only [List.length_drop, List.length_take]; rfl)) ?_; (with_reducible refine (zsc.calls (rd l0 x5_1) true _ A4.out).mono ?_); rintro e w' ⟨rfl, ⟨nd, rfl⟩⟩; refine ⟨_, rfl, ?_⟩; have p316 : 0 ≤ (x5_1 : Int) := of_decide_eq_true (by with_reducible assumption); have q316 : x5_1 < (l0.length : Int) := of_decide_eq_true (by with_reducible assumption); obtain ⟨ad316, e316, hx316_0⟩ := Kd.zte HR0.out x5_1 p316 q316; obtain rfl : ad314 = ad316 := (by injection e316); replace hx316_0 := (HB.out.cell (World.block_lt_of_cell? w _ hx316_0)).trans hx316_0; replace p316 := eq_true p316; replace q316 := eq_true q316) | ((with_reducible refine zab (f := 42) rfl ?_); refine zhc (some 23) rfl rfl Try.func42 (by kernel_rfl) rfl #[.int .i64 (rd l0 x5_1)] rfl (by (try simp only [List.map_toArray, List.map_cons, List.map_nil]); first | done | rfl | (simp only [List.length_drop, List.length_take]; rfl)) ?_; (with_reducible refine (zrc.calls (rd l0 x5_1) t317 _ A6.out).mono ?_); rintro e w8 ⟨rfl, hb⟩; refine ⟨_, rfl, ?_⟩; have n0_ := zea.mk (zbb (by repeat (with_reducible first | exact HB.out | apply zfa | apply zca | apply zda)) hb); clear HB; have HB := n0_; clear n0_; (try clear hb); (try clear hb2); (try clear hk); (try clear hi))); go_roundg k1
           case measure => have := HK1.out; omega
           case rel => exact ⟨(x4_1 ++ t317), (wrap64 (x5_1 + 1)), (by first | rfl | (simp [*]; done)), (by first | rfl | (simp [*]; done)), H', ⟨by have := HK1.out; omega⟩, ⟨by repeat (with_reducible first | exact HB.out | apply zfa | apply zca | apply zda)⟩⟩
         · rw [if_neg c7] at H; exact absurd H (by simp)
       · replace c5 := Bool.eq_false_iff.mpr c5; subst c5; have H1 : (some ((⟨#[]⟩ : ByteArray), false)) = some (r1, r2) := by rw [if_neg (show ¬ (false = true) by decide)] at H; exact H
         clear H; have H := H1; clear H1; simp only [Option.some.injEq, Prod.mk.injEq] at H; obtain ⟨rfl, rfl⟩ := H; have p314 : 0 ≤ (x5_1 : Int) := of_decide_eq_true (by with_reducible assumption); have q314 : x5_1 < (l0.length : Int) := of_decide_eq_true (by with_reducible assumption); obtain ⟨ad314, e314, hx314_0⟩ := Kd.zte HR0.out x5_1 p314 q314; cases e314; replace hx314_0 := (HB.out.cell (World.block_lt_of_cell? w _ hx314_0)).trans hx314_0; replace p314 := eq_true p314; replace q314 := eq_true q314; go_wp2_with (first | ((with_reducible refine zab (f := 41) rfl ?_); refine zhc (some 16) rfl rfl Try.func41 (by kernel_rfl) rfl #[.int .i64 (rd l0 x5_1)] rfl (by (try simp only [List.map_toArray, List.map_cons, List.map_nil]); first | done | rfl | (simp only [List.length_drop, List.length_take]; rfl)) ?_; (with_reducible refine (zsc.calls (rd l0 x5_1) false _ A4.out).mono ?_); rintro e w' ⟨rfl, ⟨nd, rfl⟩⟩; refine ⟨_, rfl, ?_⟩)); go_ret2; exact ⟨by first | rfl | (simp [zra, zqa] <;> rfl) | (simp [*, zra, zqa] <;> rfl), by repeat (with_reducible first | exact HB.out | apply zfa | apply zca | apply zda)⟩
     · rw [if_neg c3] at H; exact absurd H (by simp)
   · rw [if_neg c2] at H; have c2b0 : decide (x5_1 < (l0.length : Int)) = false := decide_eq_false c2; clear c2; simp only [Option.some.injEq, Prod.mk.injEq] at H; obtain ⟨rfl, rfl⟩ := H; go_wp2; go_ret2; exact ⟨by first | rfl | (simp [zra, zqa] <;> rfl) | (simp [*, zra, zqa] <;> rfl), by repeat (with_reducible first | exact HB.out | apply zfa | apply zca | apply zda)⟩
def zxa.l0 : Nat → ByteArray → List ByteArray → Int → Int → Option (List ByteArray)
 | 0, _, _, _, _ => none
 | k + 1, x0, x3, x4, x5 => if x5 < (x0.size : Int) then (if 0 ≤ x5 then (if (bt x0 x5) = 10 then (if 0 ≤ x4 then (if x4 ≤ x5 then (if x5 ≤ (x0.size : Int) then (if x3.length < 8796093022208 then (zxa.l0 k x0 (x3 ++ [x0.extract (x4 : Int).toNat (x5 : Int).toNat]) (wrap64 (x5 + 1)) (wrap64 (x5 + 1))) else (none)) else (none)) else (none)) else (none)) else (zxa.l0 k x0 x3 x4 (wrap64 (x5 + 1)))) else (none)) else (some x3)
def zxa.f (k : Nat) (a0 : ByteArray) : Option (List ByteArray) := zxa.l0 k a0 ([] : List ByteArray) 0 0
theorem zxa.zyb : ∀ k, (∀ y0 y1 y2 y3, LeO (zxa.l0 k y0 y1 y2 y3) (zxa.l0 (k + 1) y0 y1 y2 y3))
 | 0 => fun _ _ _ _ r h => by simp [zxa.l0] at h
 | k + 1 => by
  have ih0 := zxa.zyb k
  · intro y0 y1 y2 y3
    unfold zxa.l0
    repeat' first | (with_reducible exact ih0 _ _ _ _) | (with_reducible exact LeO.refl _) | (with_reducible exact LeO.none _) | (with_reducible refine LeO.ite ?_ ?_) | (with_reducible refine LeO.bind ?_ (fun _ => ?_)) | exact ih0 _ _ _ _ | exact LeO.none _ | refine LeO.ite ?_ ?_ | refine LeO.bind ?_ (fun _ => ?_)
theorem zxa.mono : ∀ a0 k, LeO (zxa.f k a0) (zxa.f (k + 1) a0) := by
 intro a0 k
 have ih0 := zxa.zyb k
 unfold zxa.f
 repeat' first | (with_reducible exact ih0 _ _ _ _) | (with_reducible exact LeO.refl _) | (with_reducible exact LeO.none _) | (with_reducible refine LeO.ite ?_ ?_) | (with_reducible refine LeO.bind ?_ (fun _ => ?_)) | exact ih0 _ _ _ _ | exact LeO.none _ | refine LeO.ite ?_ ?_ | refine LeO.bind ?_ (fun _ => ?_)
set_option maxHeartbeats 8000000 in
set_option maxRecDepth 100000 in
theorem zxa.calls (k : Nat) (a0 : ByteArray) (r : List ByteArray) (w : World) (h : zxa.f k a0 = some r) :
 Calls Try.prog 44 #[.string a0] w fun e w' => ∃ v0_ : Value, e = .returned (v0_) ∧ Kd.R Kd.string 9 w' w.heap.size (fun _ => True) v0_ r ∧ Below w.heap.size w w' := by
 have HB := zea.mk (Below.refl w.heap.size w); have H : (zxa.l0 k a0 ([] : List ByteArray) 0 0) = some r := h; clear h; have H' := zea.mk H; clear H; go_enter Try.func44, Try.ntmps44; go_wp2; (try simp only [zss_]); go_loopg [3, 4, 5] k (fun kq v3 v4 v5 w' => ∃ (x3_1 : List ByteArray) (x4_1 : Int) (x5_1 : Int), v4 = .int .i64 x4_1 ∧ v5 = .int .i64 x5_1 ∧ zea (zxa.l0 kq a0 x3_1 x4_1 x5_1 = some r) ∧ zea (kq ≤ k) ∧ zea (Kd.R Kd.string 9 w' w.heap.size (fun _ => True) v3 x3_1) ∧ zea (Below w.heap.size w w'))
 case atStart => exact ⟨(([] : List ByteArray)), (0), (0), (by first | rfl | (simp [*]; done)), (by first | rfl | (simp [*]; done)), H', ⟨Nat.le_refl _⟩, ⟨by first | exact Kd.R_nil _ _ _ _ _ | exact Kd.N_nil _ _ _ _ _ | exact Kd.V_nil _ _ _ _ _ | exact Kd.Q_nil _ _ _ _ _ | exact Kd.S_nil _ _ _ _ _⟩, ⟨by repeat (with_reducible first | exact HB.out | apply zfa | apply zca | apply zda)⟩⟩
 case round =>
  clear H'; obtain ⟨x3_1, x4_1, x5_1, rfl, rfl, HA, HK1, HO_3, HB⟩ := hrel
  cases gk with
  | zero => exact absurd HA.out (by simp [zxa.l0])
  | succ k1 =>
   have H := HA.out; clear HA; simp only [zxa.l0] at H; by_cases c2 : x5_1 < (a0.size : Int)
   · rw [if_pos c2] at H; have c2b0 : decide (x5_1 < (a0.size : Int)) = true := decide_eq_true c2; clear c2; by_cases c3 : 0 ≤ x5_1
     · rw [if_pos c3] at H; have c3b0 : decide (0 ≤ x5_1) = true := decide_eq_true c3; clear c3; by_cases c5 : (bt a0 x5_1) = 10
       · rw [if_pos c5] at H; have c5b0 : ((bt a0 x5_1) == 10) = true := beq_iff_eq.mpr c5; have c5b1 : ((bt a0 x5_1) != 10) = false := bne_eq_false_iff_eq.mpr c5; clear c5; by_cases c6 : 0 ≤ x4_1
         · rw [if_pos c6] at H; have c6b0 := eq_true c6; have c6b1 : decide (0 ≤ x4_1) = true := decide_eq_true c6; clear c6; by_cases c7 : x4_1 ≤ x5_1
           · rw [if_pos c7] at H; have c7b0 := eq_true c7; have c7b1 : decide (x4_1 ≤ x5_1) = true := decide_eq_true c7; clear c7; by_cases c8 : x5_1 ≤ (a0.size : Int)
             · rw [if_pos c8] at H; have c8b0 := eq_true c8; have c8b1 : decide (x5_1 ≤ (a0.size : Int)) = true := decide_eq_true c8; clear c8; by_cases c9 : x3_1.length < 8796093022208
               · rw [if_pos c9] at H; have LMc9 := zea.mk c9; clear c9
                 obtain ⟨y318, hy318⟩ : ∃ y_ : List ByteArray, y_ = (x3_1 ++ [a0.extract (x4_1 : Int).toNat (x5_1 : Int).toNat]) := ⟨_, rfl⟩
                 replace H : (zxa.l0 k1 a0 y318 (wrap64 (x5_1 + 1)) (wrap64 (x5_1 + 1))) = some r := by first | (rw [hy318]; with_reducible exact H) | (have H2_ := (Option.bind_some _ _).symm.trans H; rw [hy318]; with_reducible exact H2_) | (have H2_ := (Option.bind_some _ _).symm.trans H; with_reducible exact H2_) | with_reducible exact H | (rw [hy318]; exact H) | exact H
                 have Ny318 := zea.mk hy318; clear hy318; have H' := zea.mk H; clear H; have p4 : 0 ≤ (x5_1 : Int) := of_decide_eq_true (by with_reducible assumption); have q4 : x5_1 < (a0.size : Int) := of_decide_eq_true (by with_reducible assumption); have hx4 := bt_at a0 x5_1; replace p4 := eq_true p4; replace q4 := eq_true q4; go_wp2_with (first | ((with_reducible refine zqc (b := .append) (xs := #[.tmp 16, .tmp 21]) rfl ?_); at_builtin; refine Kd.zkd Kd.string (w0 := w) w.heap.size rfl (.tmp 16) (.tmp 21) 22 9 (.string ⟨#[]⟩) 16 rfl Try.underlying22 info9 rfl (by decide) (by omega) u3 x3_1 (a0.extract (x4_1 : Int).toNat (x5_1 : Int).toNat) [.string (a0.extract (x4_1 : Int).toNat (x5_1 : Int).toNat)] (fun _ => True) (fun _ => False) rfl rfl ?aP (fun _ hk => hk.elim) ?aF ?aO ?aB ?aS ?aL ?_; (case aP => exact rfl); (case aB => exact (by repeat (with_reducible first | exact HB.out | apply zfa | apply zca | apply zda))); (case aF => exact (fun _ _ => trivial)); (case aO => exact (by (with_reducible repeat (first | apply Kd.zpa | apply Kd.zoa | apply Kd.zwa)); exact HO_3.out)); (case aS => exact (zdb (by repeat (with_reducible first | exact HB.out | apply zfa | apply zca | apply zda)))); (case aL => have := LMc9.out; omega); intro v319 w10 ho hb hg hat; rw [← Ny318.out] at ho; have n0_ := zea.mk (hb); have n1_ := zea.mk (ho); clear HB; clear HO_3; have HB := n0_; have HO320 := n1_; clear n0_ n1_; clear ho hb hg hat)); go_roundg k1
                 case measure => have := HK1.out; omega
                 case rel => exact ⟨(y318), (wrap64 (x5_1 + 1)), (wrap64 (x5_1 + 1)), (by first | rfl | (simp [*]; done)), (by first | rfl | (simp [*]; done)), H', ⟨by have := HK1.out; omega⟩, ⟨by (with_reducible repeat (first | apply Kd.zpa | apply Kd.zoa | apply Kd.zwa)); exact HO320.out⟩, ⟨by repeat (with_reducible first | exact HB.out | apply zfa | apply zca | apply zda)⟩⟩
               · rw [if_neg c9] at H; exact absurd H (by simp)
             · rw [if_neg c8] at H; exact absurd H (by simp)
           · rw [if_neg c7] at H; exact absurd H (by simp)
         · rw [if_neg c6] at H; exact absurd H (by simp)
       · rw [if_neg c5] at H; have c5b0 : ((bt a0 x5_1) == 10) = false := beq_eq_false_iff_ne.mpr c5; have c5b1 : ((bt a0 x5_1) != 10) = true := bne_iff_ne.mpr c5; have H' := zea.mk H; clear H; have p4 : 0 ≤ (x5_1 : Int) := of_decide_eq_true (by with_reducible assumption); have q4 : x5_1 < (a0.size : Int) := of_decide_eq_true (by with_reducible assumption); have hx4 := bt_at a0 x5_1; replace p4 := eq_true p4; replace q4 := eq_true q4; go_wp2; go_roundg k1
         case measure => have := HK1.out; omega
         case rel => exact ⟨(x3_1), (x4_1), (wrap64 (x5_1 + 1)), (by first | rfl | (simp [*]; done)), (by first | rfl | (simp [*]; done)), H', ⟨by have := HK1.out; omega⟩, ⟨by (with_reducible repeat (first | apply Kd.zpa | apply Kd.zoa | apply Kd.zwa)); exact HO_3.out⟩, ⟨by repeat (with_reducible first | exact HB.out | apply zfa | apply zca | apply zda)⟩⟩
     · rw [if_neg c3] at H; exact absurd H (by simp)
   · rw [if_neg c2] at H; have c2b0 : decide (x5_1 < (a0.size : Int)) = false := decide_eq_false c2; clear c2; obtain rfl := Option.some.inj H; go_wp2; go_ret; exact ⟨_, by first | rfl | (simp [zra, zqa] <;> rfl) | (simp [*, zra, zqa] <;> rfl), by (with_reducible repeat (first | apply Kd.zpa | apply Kd.zoa | apply Kd.zwa)); exact HO_3.out, by repeat (with_reducible first | exact HB.out | apply zfa | apply zca | apply zda)⟩
def zva.l0 : Nat → ByteArray → List ByteArray → Int → Option (List ByteArray)
 | 0, _, _, _ => none
 | k + 1, x0, x3, x4 => if x4 < (x0.size : Int) then (if 0 ≤ x4 then (if (bt x0 x4) = 32 then (if x3.length < 8796093022208 then (zva.l0 k x0 (x3 ++ [(⟨#[]⟩ : ByteArray)]) (wrap64 (x4 + 1))) else (none)) else (if 0 ≤ (wrap64 ((x3.length : Int) - 1)) then (if (wrap64 ((x3.length : Int) - 1)) < (x3.length : Int) then ((some (([bt x0 x4] : List Int) : List Int)).bind fun y328 => (if (rdOf ByteArray.empty x3 (wrap64 ((x3.length : Int) - 1))).size + (strOfNums y328).size ≤ 9223372036854775807 then (zva.l0 k x0 (x3.set ((wrap64 ((x3.length : Int) - 1)) : Int).toNat ((rdOf ByteArray.empty x3 (wrap64 ((x3.length : Int) - 1))) ++ (strOfNums y328))) (wrap64 (x4 + 1))) else (none))) else (none)) else (none))) else (none)) else (some x3)
def zva.f (k : Nat) (a0 : ByteArray) : Option (List ByteArray) := zva.l0 k a0 (([(⟨#[]⟩ : ByteArray)] : List ByteArray)) 0
theorem zva.zyb : ∀ k, (∀ y0 y1 y2, LeO (zva.l0 k y0 y1 y2) (zva.l0 (k + 1) y0 y1 y2))
 | 0 => fun _ _ _ r h => by simp [zva.l0] at h
 | k + 1 => by
  have ih0 := zva.zyb k
  · intro y0 y1 y2
    unfold zva.l0
    repeat' first | (with_reducible exact ih0 _ _ _) | (with_reducible exact LeO.refl _) | (with_reducible exact LeO.none _) | (with_reducible refine LeO.ite ?_ ?_) | (with_reducible refine LeO.bind ?_ (fun _ => ?_)) | exact ih0 _ _ _ | exact LeO.none _ | refine LeO.ite ?_ ?_ | refine LeO.bind ?_ (fun _ => ?_)
theorem zva.mono : ∀ a0 k, LeO (zva.f k a0) (zva.f (k + 1) a0) := by
 intro a0 k
 have ih0 := zva.zyb k
 unfold zva.f
 repeat' first | (with_reducible exact ih0 _ _ _) | (with_reducible exact LeO.refl _) | (with_reducible exact LeO.none _) | (with_reducible refine LeO.ite ?_ ?_) | (with_reducible refine LeO.bind ?_ (fun _ => ?_)) | exact ih0 _ _ _ | exact LeO.none _ | refine LeO.ite ?_ ?_ | refine LeO.bind ?_ (fun _ => ?_)
def zva.T7 : Bool × List (List Nat × List Nat) := (true, [([], []), ([], []), ([1], [1]), ([2], [2]), ([0, 3], [0, 3]), ([4], [4]), ([], []), ([], []), ([6, 7], [6, 7]), ([8], [8]), ([9], [9]), ([5, 10], [5, 10]), ([0, 3, 0, 1, 2, 3, 4, 5, 6, 7, 8, 9, 10, 11], [0, 3]), ([12, 11, 0, 1, 2, 3, 4, 5, 6, 7, 8, 9, 10, 11], [11, 12])])
def zva.B7 : List Nat := [0, 0, 2, 6, 15, 31, 0, 0, 192, 448, 960, 2047, 4095, 8191]
theorem zva.tab7 : rtab .any (opsOf Try.f45 7) = zva.T7 := by kernel_rfl
theorem zva.bits7 : waitsOk zva.T7.2 zva.B7 = true := by kernel_rfl
set_option maxHeartbeats 8000000 in
set_option maxRecDepth 100000 in
theorem zva.calls (k : Nat) (a0 : ByteArray) (r : List ByteArray) (w : World) (h : zva.f k a0 = some r) :
 Calls Try.prog 45 #[.string a0] w fun e w' => ∃ v0_ : Value, e = .returned (v0_) ∧ Kd.R Kd.string 9 w' w.heap.size (fun _ => True) v0_ r ∧ Below w.heap.size w w' := by
 have HB := zea.mk (Below.refl w.heap.size w); have H : (zva.l0 k a0 (([(⟨#[]⟩ : ByteArray)] : List ByteArray)) 0) = some r := h; clear h
 obtain ⟨y321, hy321⟩ : ∃ y_ : List ByteArray, y_ = (([(⟨#[]⟩ : ByteArray)] : List ByteArray)) := ⟨_, rfl⟩
 replace H : (zva.l0 k a0 y321 0) = some r := by first | (rw [hy321]; with_reducible exact H) | (have H2_ := (Option.bind_some _ _).symm.trans H; rw [hy321]; with_reducible exact H2_) | (have H2_ := (Option.bind_some _ _).symm.trans H; with_reducible exact H2_) | with_reducible exact H | (rw [hy321]; exact H) | exact H
 have Ny321 := zea.mk hy321; clear hy321; have H' := zea.mk H; clear H; go_enter Try.func45, Try.ntmps45; go_wp2_with (first | ((with_reducible refine zbd (N := 5) rfl ?_); refine Kd.R_lit Kd.string _ 9 ?hg (N := 5) ?hd (xs := ([(⟨#[]⟩ : ByteArray)] : List ByteArray)) (inner := [.string (⟨#[]⟩ : ByteArray)]) (ok := fun _ => True) (okp := fun _ => True) ?hr ?hp (fun _ hk => hk) trivial (Below.refl _ _) (Nat.le_refl _) (by simp) ?_; (case hd => rfl); (case hg => rfl); (case hr => first | (go_simp; done) | (go_simp; rfl)); (case hp => exact (Reps.one (show Kd.M Kd.string _ _ _ (⟨#[]⟩ : ByteArray) [.string (⟨#[]⟩ : ByteArray)] from rfl) (Reps.none _ _))); intro v322 w2 ho3 hb hg_ hnew_; clear hg_ hnew_; (first | rw [← Ny321.out] at ho3 | (simp only [Int.reduceToNat] at ho3; rw [← Ny321.out] at ho3)); have n0_ := zea.mk (Kd.ztc ho3 (zdb (by repeat (with_reducible first | exact HB.out | apply zfa | apply zca | apply zda)))); have n1_ := zea.mk (zbb (by repeat (with_reducible first | exact HB.out | apply zfa | apply zca | apply zda)) hb); clear HB; have HO323 := n0_; have HB := n1_; clear n0_ n1_; clear hb ho3)); (try simp only [zss_]); go_loopg [3, 4] k (fun kq v3 v4 w' => ∃ (x3_1 : List ByteArray) (x4_1 : Int), v4 = .int .i64 x4_1 ∧ zea (zva.l0 kq a0 x3_1 x4_1 = some r) ∧ zea (kq ≤ k) ∧ zea (Kd.R Kd.string 9 w' w.heap.size (fun _ => True) v3 x3_1) ∧ zea (Below w.heap.size w w'))
 case atStart => exact ⟨(y321), (0), (by first | rfl | (simp [*]; done)), H', ⟨Nat.le_refl _⟩, ⟨by (with_reducible repeat (first | apply Kd.zpa | apply Kd.zoa | apply Kd.zwa)); exact HO323.out⟩, ⟨by repeat (with_reducible first | exact HB.out | apply zfa | apply zca | apply zda)⟩⟩
 case round =>
  clear H'; (try clear p2); obtain ⟨x3_1, x4_1, rfl, HA, HK1, HO_3, HB⟩ := hrel
  cases gk with
  | zero => exact absurd HA.out (by simp [zva.l0])
  | succ k1 =>
   have H := HA.out; clear HA; simp only [zva.l0] at H; by_cases c4 : x4_1 < (a0.size : Int)
   · rw [if_pos c4] at H; have c4b0 : decide (x4_1 < (a0.size : Int)) = true := decide_eq_true c4; clear c4; by_cases c5 : 0 ≤ x4_1
     · rw [if_pos c5] at H; have c5b0 : decide (0 ≤ x4_1) = true := decide_eq_true c5; clear c5; by_cases c7 : (bt a0 x4_1) = 32
       · rw [if_pos c7] at H; have c7b0 : ((bt a0 x4_1) == 32) = true := beq_iff_eq.mpr c7; have c7b1 : ((bt a0 x4_1) != 32) = false := bne_eq_false_iff_eq.mpr c7; clear c7; by_cases c8 : x3_1.length < 8796093022208
         · rw [if_pos c8] at H; have LMc8 := zea.mk c8; clear c8
           obtain ⟨y324, hy324⟩ : ∃ y_ : List ByteArray, y_ = (x3_1 ++ [(⟨#[]⟩ : ByteArray)]) := ⟨_, rfl⟩
           replace H : (zva.l0 k1 a0 y324 (wrap64 (x4_1 + 1))) = some r := by first | (rw [hy324]; with_reducible exact H) | (have H2_ := (Option.bind_some _ _).symm.trans H; rw [hy324]; with_reducible exact H2_) | (have H2_ := (Option.bind_some _ _).symm.trans H; with_reducible exact H2_) | with_reducible exact H | (rw [hy324]; exact H) | exact H
           have Ny324 := zea.mk hy324; clear hy324; have H' := zea.mk H; clear H; have p6 : 0 ≤ (x4_1 : Int) := of_decide_eq_true (by with_reducible assumption); have q6 : x4_1 < (a0.size : Int) := of_decide_eq_true (by with_reducible assumption); have hx6 := bt_at a0 x4_1; replace p6 := eq_true p6; replace q6 := eq_true q6; go_wp2_with (first | ((with_reducible refine zqc (b := .append) (xs := #[.tmp 16, .tmp 17]) rfl ?_); at_builtin; refine Kd.zkd Kd.string (w0 := w) w.heap.size rfl (.tmp 16) (.tmp 17) 22 9 (.string ⟨#[]⟩) 16 rfl Try.underlying22 info9 rfl (by decide) (by omega) u3 x3_1 (⟨#[]⟩ : ByteArray) [.string (⟨#[]⟩ : ByteArray)] (fun _ => True) (fun _ => False) rfl rfl ?aP (fun _ hk => hk.elim) ?aF ?aO ?aB ?aS ?aL ?_; (case aP => exact rfl); (case aB => exact (by repeat (with_reducible first | exact HB.out | apply zfa | apply zca | apply zda))); (case aF => exact (fun _ _ => trivial)); (case aO => exact (by (with_reducible repeat (first | apply Kd.zpa | apply Kd.zoa | apply Kd.zwa)); exact HO_3.out)); (case aS => exact (zdb (by repeat (with_reducible first | exact HB.out | apply zfa | apply zca | apply zda)))); (case aL => have := LMc8.out; omega); intro v325 w9 ho hb hg hat; rw [← Ny324.out] at ho; have n0_ := zea.mk (hb); have n1_ := zea.mk (ho); clear HB; clear HO_3; have HB := n0_; have HO326 := n1_; clear n0_ n1_; clear ho hb hg hat)); go_roundg k1
           case measure => have := HK1.out; omega
           case rel => exact ⟨(y324), (wrap64 (x4_1 + 1)), (by first | rfl | (simp [*]; done)), H', ⟨by have := HK1.out; omega⟩, ⟨by (with_reducible repeat (first | apply Kd.zpa | apply Kd.zoa | apply Kd.zwa)); exact HO326.out⟩, ⟨by repeat (with_reducible first | exact HB.out | apply zfa | apply zca | apply zda)⟩⟩
         · rw [if_neg c8] at H; exact absurd H (by simp)
       · rw [if_neg c7] at H; have c7b0 : ((bt a0 x4_1) == 32) = false := beq_eq_false_iff_ne.mpr c7; have c7b1 : ((bt a0 x4_1) != 32) = true := bne_iff_ne.mpr c7
         obtain ⟨ji10, hji10⟩ : ∃ j_ : Int, (wrap64 ((x3_1.length : Int) - 1)) = j_ := ⟨_, rfl⟩
         replace H : (if 0 ≤ (ji10) then (if (ji10) < (x3_1.length : Int) then ((some (([bt a0 x4_1] : List Int) : List Int)).bind fun y328 => (if (rdOf ByteArray.empty x3_1 (ji10)).size + (strOfNums y328).size ≤ 9223372036854775807 then (zva.l0 k1 a0 (x3_1.set ((ji10) : Int).toNat ((rdOf ByteArray.empty x3_1 (ji10)) ++ (strOfNums y328))) (wrap64 (x4_1 + 1))) else (none))) else (none)) else (none)) = some r := by first | (rw [hji10] at H; exact H) | (simp only [hji10] at H ⊢; exact H)
         have hji10w : (IntKind.i64.wrap ((x3_1.length : Int) - 1)) = ji10 := (i64_w _).trans hji10; by_cases c11 : 0 ≤ (ji10)
         · rw [if_pos c11] at H; have c11b0 : decide (0 ≤ (ji10)) = true := decide_eq_true c11; clear c11; by_cases c12 : (ji10) < (x3_1.length : Int)
           · rw [if_pos c12] at H; have c12b0 : decide ((ji10) < (x3_1.length : Int)) = true := decide_eq_true c12; clear c12
             obtain ⟨y328, hy328⟩ : ∃ y_ : List Int, y_ = (([bt a0 x4_1] : List Int)) := ⟨_, rfl⟩
             replace H : (if (rdOf ByteArray.empty x3_1 (ji10)).size + (strOfNums y328).size ≤ 9223372036854775807 then (zva.l0 k1 a0 (x3_1.set ((ji10) : Int).toNat ((rdOf ByteArray.empty x3_1 (ji10)) ++ (strOfNums y328))) (wrap64 (x4_1 + 1))) else (none)) = some r := by first | (rw [hy328]; with_reducible exact H) | (have H2_ := (Option.bind_some _ _).symm.trans H; rw [hy328]; with_reducible exact H2_) | (have H2_ := (Option.bind_some _ _).symm.trans H; with_reducible exact H2_) | with_reducible exact H | (rw [hy328]; exact H) | exact H
             have Ny328 := zea.mk hy328; clear hy328; by_cases c14 : (rdOf ByteArray.empty x3_1 (ji10)).size + (strOfNums y328).size ≤ 9223372036854775807
             · rw [if_pos c14] at H; have c14b0 := eq_true c14; have c14b1 : decide ((rdOf ByteArray.empty x3_1 (ji10)).size + (strOfNums y328).size ≤ 9223372036854775807) = true := decide_eq_true c14; (try have c14b2 : (9223372036854775807 < (rdOf ByteArray.empty x3_1 (ji10)).size + (strOfNums y328).size) = False := eq_false (Nat.not_lt.2 c14))
               obtain ⟨y331, hy331⟩ : ∃ y_ : List ByteArray, y_ = (x3_1.set ((ji10) : Int).toNat ((rdOf ByteArray.empty x3_1 (ji10)) ++ (strOfNums y328))) := ⟨_, rfl⟩
               replace H : (zva.l0 k1 a0 y331 (wrap64 (x4_1 + 1))) = some r := by first | (rw [hy331]; with_reducible exact H) | (have H2_ := (Option.bind_some _ _).symm.trans H; rw [hy331]; with_reducible exact H2_) | (have H2_ := (Option.bind_some _ _).symm.trans H; with_reducible exact H2_) | with_reducible exact H | (rw [hy331]; exact H) | exact H
               have Ny331 := zea.mk hy331; clear hy331; have H' := zea.mk H; clear H; have p6 : 0 ≤ (x4_1 : Int) := of_decide_eq_true (by with_reducible assumption); have q6 : x4_1 < (a0.size : Int) := of_decide_eq_true (by with_reducible assumption); have hx6 := bt_at a0 x4_1; replace p6 := eq_true p6; replace q6 := eq_true q6; (try go_wp2); have n0_ := zea.mk (Kd.zwa HO_3.out); have n1_ := zea.mk (zda HB.out); clear HO_3; clear HB; have HO_3 := n0_; have HB := n1_; clear n0_ n1_; obtain ⟨Ao17, co17, eo17⟩ := Kd.zwb HO_3.out; (first | subst eo17 | (injection eo17 with f1_ f2_ f3_; have f4_ := f1_.symm; have f5_ := f3_.symm; clear f1_ f2_ f3_; subst f4_; subst f5_)); have p327 : 0 ≤ ((ji10) : Int) := of_decide_eq_true (by with_reducible assumption); have q327 : (ji10) < (x3_1.length : Int) := of_decide_eq_true (by with_reducible assumption); obtain ⟨ad327, e327, hx327_0⟩ := Kd.zad (Kd.zza HO_3.out).2.2 (ji10) p327 q327; cases e327; replace p327 := eq_true p327; replace q327 := eq_true q327; have p13 : 0 ≤ (x4_1 : Int) := of_decide_eq_true (by with_reducible assumption); have q13 : x4_1 < (a0.size : Int) := of_decide_eq_true (by with_reducible assumption); have hx13 := bt_at a0 x4_1; replace p13 := eq_true p13; replace q13 := eq_true q13; refine start_ (n := 14) (S := fun w' => w'.cell? (ad327.add ((ji10)).toNat) = some (.string (rdOf ByteArray.empty x3_1 (ji10)))) (ds := [13]) #[false, false, false, false, false, false, false, false, false, false, false, false, false, false] (by kernel_rfl) rfl rfl (hx327_0) (fun hHeld => ?_); refine zdd zva.tab7 zva.bits7 (fun HT_ HW_ => ?_); generalize wr.drew = w16 at HO_3 HB hx327_0 hHeld ⊢; refine pure_ (i := 0) (N := some 19) (v := ?_) (a' := ?_) #[true, false, false, false, false, false, false, false, false, false, false, false, false, false] rfl rfl (zcb HT_.out (by kernel_rfl)) (fun _ _ _ h => h) (Or.inl ⟨by rfl, ?_⟩) ?_ ?_; rotate_left
               · intro w'; go_simp; with_reducible rfl
               rotate_left
               · simp only [zss_, i64_w, i32_w]; rfl
               refine pure_ (i := 1) (N := some 20) (v := ?_) (a' := ?_) #[true, true, false, false, false, false, false, false, false, false, false, false, false, false] rfl rfl (zcb HT_.out (by kernel_rfl)) (fun _ _ _ h => h) (Or.inl ⟨by rfl, ?_⟩) ?_ ?_; rotate_left
               · intro w'; go_simp; with_reducible rfl
               rotate_left
               · simp only [zss_, i64_w, i32_w]; rfl
               refine pure_ (i := 2) (N := some 21) (v := ?_) (a' := ?_) #[true, true, true, false, false, false, false, false, false, false, false, false, false, false] rfl rfl (zcb HT_.out (by kernel_rfl)) (fun _ _ _ h => h) (Or.inl ⟨by rfl, ?_⟩) ?_ ?_; rotate_left
               · intro w'; go_simp; with_reducible rfl
               rotate_left
               · simp only [zss_, i64_w, i32_w]; rfl
               refine pure_ (i := 3) (N := some 22) (v := ?_) (a' := ?_) #[true, true, true, true, false, false, false, false, false, false, false, false, false, false] rfl rfl (zcb HT_.out (by kernel_rfl)) (fun _ _ _ h => h) (Or.inl ⟨by rfl, ?_⟩) ?_ ?_; rotate_left
               · intro w'; go_simp; with_reducible rfl
               rotate_left
               · simp only [zss_, i64_w, i32_w]; rfl
               refine pure_ (i := 4) (N := some 23) (v := ?_) (a' := ?_) #[true, true, true, true, true, false, false, false, false, false, false, false, false, false] rfl rfl (zcb HT_.out (by kernel_rfl)) (fun _ _ _ h => h) (Or.inl ⟨by rfl, ?_⟩) ?_ ?_; rotate_left
               · intro w'; go_simp; with_reducible rfl
               rotate_left
               · simp only [zss_, i64_w, i32_w]; rfl
               refine pure_ (i := 6) (N := some 25) (v := ?_) (a' := ?_) #[true, true, true, true, true, false, true, false, false, false, false, false, false, false] rfl rfl (zcb HT_.out (by kernel_rfl)) (fun _ _ _ h => h) (Or.inl ⟨by rfl, ?_⟩) ?_ ?_; rotate_left
               · intro w'; go_simp; with_reducible rfl
               rotate_left
               · simp only [zss_, i64_w, i32_w]; rfl
               refine pure_ (i := 7) (N := some 26) (v := ?_) (a' := ?_) #[true, true, true, true, true, false, true, true, false, false, false, false, false, false] rfl rfl (zcb HT_.out (by kernel_rfl)) (fun _ _ _ h => h) (Or.inl ⟨by rfl, ?_⟩) ?_ ?_; rotate_left
               · intro w'; go_simp; with_reducible rfl
               rotate_left
               · simp only [zss_, i64_w, i32_w]; rfl
               refine take_ (i := 5) (N := some 24) (v := ?_) (a' := ?_) #[true, true, true, true, true, true, true, true, false, false, false, false, false, false] rfl rfl (zyc HT_.out HW_.out (by kernel_rfl)) (fun _ _ _ h => h) (Or.inl ⟨by rfl, ?_⟩) hHeld ?_ ?_; rotate_left
               · intro w' s0; go_simp; with_reducible rfl
               rotate_left
               · simp only [zss_, i64_w, i32_w]; rfl
               refine take_ (i := 8) (N := some 27) (v := ?_) (a' := ?_) #[true, true, true, true, true, true, true, true, true, false, false, false, false, false] rfl rfl (zyc HT_.out HW_.out (by kernel_rfl)) (fun _ _ _ h => h) (Or.inl ⟨by rfl, ?_⟩) hHeld ?_ ?_; rotate_left
               · intro w' s0; go_simp; with_reducible rfl
               rotate_left
               · simp only [zss_, i64_w, i32_w]; rfl
               refine one_ (i := 9) (N := some 28) #[true, true, true, true, true, true, true, true, true, true, false, false, false, false] rfl rfl (zbe HT_.out (by kernel_rfl)) (by decide) (fun K hK => ?_)
               refine Kd.R_lit_step (Kd.int .u8) _ 5 ?hg (N := 28) ?hd (xs := ([bt a0 x4_1] : List Int)) (inner := [.int .u8 (bt a0 x4_1)]) (ok := fun _ => True) (okp := fun _ => True) ?hr ?hp (fun _ hk => hk) trivial (Below.refl _ _) (Nat.le_refl _) (by simp) ?_; (case hd => rfl); (case hg => rfl); (case hr => first | (go_simp; done) | (go_simp; rfl)); (case hp => exact (Reps.one (show Kd.M (Kd.int .u8) _ _ _ (bt a0 x4_1) [.int .u8 (bt a0 x4_1)] from rfl) (Reps.none _ _)))
               intro v329 w18 ho19 hb hg_ hnew_; have HS0_ := (hb.cell (World.block_lt_of_cell? _ _ (hHeld))).trans (hHeld); clear hg_ hnew_; (first | rw [← Ny328.out] at ho19 | (simp only [Int.reduceToNat] at ho19; rw [← Ny328.out] at ho19)); have n0_ := zea.mk (Kd.zpc (by (with_reducible repeat (first | apply Kd.zpa | apply Kd.zoa | apply Kd.zwa)); exact HO_3.out) hb); have n1_ := zea.mk (Kd.ztc ho19 (zdb (by repeat (with_reducible first | exact HB.out | apply zfa | apply zca | apply zda)))); have n2_ := zea.mk (zbb (by repeat (with_reducible first | exact HB.out | apply zfa | apply zca | apply zda)) hb); clear HO_3; clear HB; have HO_3 := n0_; have HO330 := n1_; have HB := n2_; clear n0_ n1_ n2_; clear hb ho19; have p15 : 0 ≤ ((ji10) : Int) := of_decide_eq_true (by with_reducible assumption); have q15 : ((ji10) : Int) < ((x3_1.length : Int) : Int) := of_decide_eq_true (by with_reducible assumption); obtain ⟨go15, co15, eo15, gb15, gl15, cl15, HG15⟩ := Kd.R_form HO_3.out (by omega); (first | cases eo15 | (injection eo15 with ea_ en_ ec_; (first | subst ea_ | (injection ea_ with ea_; subst ea_)); subst ec_; clear en_)); have GB15 := zea.mk gb15; have GG15 := zea.mk HG15; clear gb15 gl15 HG15; (first | simp only [add_plain] at hx327_0 | skip); obtain ⟨hx15_0, hf15_0⟩ := Kd.R_celln (⟨#[]⟩ : ByteArray) HO_3.out ((ji10) : Int) p15 q15; replace p15 := eq_true p15; replace q15 := eq_true q15; have HP21 := Kd.R_putn HO_3.out ((ji10) : Int) ((rdOf ByteArray.empty x3_1 (ji10)) ++ (strOfNums y328)); rw [← Ny331.out] at HP21; have HQ21 := zea.mk HP21; clear HP21; refine hK.out _ _ (HS0_) (fun hHeld => ?_); clear hK K; refine norm_ (a' := ?_) ?_ ?_; rotate_left
               · show Act.put _ (some 28) _ = _; simp only [zss_, i64_w, i32_w]; rfl
               refine one_ (i := 10) (N := some 29) #[true, true, true, true, true, true, true, true, true, true, true, false, false, false] rfl rfl (zbe HT_.out (by kernel_rfl)) (by decide) (fun K hK => ?_); have hcv20 := own_string (P := Try.prog) Try.underlying35 Try.underlying5 Try.underlying9 (Kd.own_of_R HO330.out); refine value_ (w1 := ?_) (v := ?_) (by rfl) rfl ?_ ?_; rotate_left 2
               · go_simp; constructor
                 · rfl
                 · rfl
               clear hcv20; refine hK.out _ _ (hHeld) (fun hHeld => ?_); clear hK K; refine norm_ (a' := ?_) ?_ ?_; rotate_left
               · show Act.put _ (some 29) _ = _; simp only [zss_, i64_w, i32_w]; rfl
               refine pure_ (i := 11) (N := some 30) (v := ?_) (a' := ?_) #[true, true, true, true, true, true, true, true, true, true, true, true, false, false] rfl rfl (zcb HT_.out (by kernel_rfl)) (fun _ _ _ h => h) (Or.inl ⟨by rfl, ?_⟩) ?_ ?_; rotate_left
               · intro w'; go_simp; with_reducible rfl
               rotate_left
               · simp only [zss_, i64_w, i32_w]; rfl
               refine pure_ (i := 12) (N := some 31) (v := ?_) (a' := ?_) #[true, true, true, true, true, true, true, true, true, true, true, true, true, false] rfl rfl (zcb HT_.out (by kernel_rfl)) (fun _ _ _ h => h) (Or.inl ⟨by rfl, ?_⟩) ?_ ?_; rotate_left
               · intro w'; go_simp; with_reducible rfl
               rotate_left
               · simp only [zss_, i64_w, i32_w]; rfl
               refine last_ (i := 13) (N := none) #[true, true, true, true, true, true, true, true, true, true, true, true, true, true] rfl rfl (zbe HT_.out (by kernel_rfl)) (by decide) (fun K hK => ?_); refine skip_ (w1 := ?_) (by rfl) rfl ?_ ?_; rotate_left
               · go_simp; rfl
               refine hK.out _ _ ?_; clear hK K; refine done_ (zde HT_.out (by kernel_rfl)) ?_; (try go_wp2); go_roundg k1
               case measure => have := HK1.out; omega
               case rel => exact ⟨(y331), (wrap64 (x4_1 + 1)), (by first | rfl | (simp [*]; done)), H', ⟨by have := HK1.out; omega⟩, ⟨by (with_reducible repeat (first | apply Kd.zpa | apply Kd.zoa | apply Kd.zwa)); exact HQ21.out⟩, ⟨by repeat (first | (with_reducible first | exact HB.out | apply zfa | apply zca | apply zda | refine zkb ?_ GB15.out) | exact HB.out)⟩⟩
             · rw [if_neg c14] at H; exact absurd H (by simp)
           · rw [if_neg c12] at H; exact absurd H (by simp)
         · rw [if_neg c11] at H; exact absurd H (by simp)
     · rw [if_neg c5] at H; exact absurd H (by simp)
   · rw [if_neg c4] at H; have c4b0 : decide (x4_1 < (a0.size : Int)) = false := decide_eq_false c4; clear c4; obtain rfl := Option.some.inj H; go_wp2; go_ret; exact ⟨_, by first | rfl | (simp [zra, zqa] <;> rfl) | (simp [*, zra, zqa] <;> rfl), by (with_reducible repeat (first | apply Kd.zpa | apply Kd.zoa | apply Kd.zwa)); exact HO_3.out, by repeat (with_reducible first | exact HB.out | apply zfa | apply zca | apply zda)⟩
def zna.l0 : Nat → ByteArray → Int → Int → Int → Option (Int)
 | 0, _, _, _, _ => none
 | k + 1, x0, x1, x5, x6 => if x6 < (x0.size : Int) then (if 0 ≤ x6 then (if (bt x0 x6) ≥ 65 then (zna.l0 k x0 x1 (wrap64 ((wrap64 (x5 * x1)) + ((((bt x0 x6) - 65) % 256) + 10))) (wrap64 (x6 + 1))) else (zna.l0 k x0 x1 (wrap64 ((wrap64 (x5 * x1)) + (((bt x0 x6) - 48) % 256))) (wrap64 (x6 + 1)))) else (none)) else (some x5)
def zna.f (k : Nat) (a0 : ByteArray) (a1 : Int) : Option (Int) := zna.l0 k a0 a1 0 0
theorem zna.zyb : ∀ k, (∀ y0 y1 y2 y3, LeO (zna.l0 k y0 y1 y2 y3) (zna.l0 (k + 1) y0 y1 y2 y3))
 | 0 => fun _ _ _ _ r h => by simp [zna.l0] at h
 | k + 1 => by
  have ih0 := zna.zyb k
  · intro y0 y1 y2 y3
    unfold zna.l0
    repeat' first | (with_reducible exact ih0 _ _ _ _) | (with_reducible exact LeO.refl _) | (with_reducible exact LeO.none _) | (with_reducible refine LeO.ite ?_ ?_) | (with_reducible refine LeO.bind ?_ (fun _ => ?_)) | exact ih0 _ _ _ _ | exact LeO.none _ | refine LeO.ite ?_ ?_ | refine LeO.bind ?_ (fun _ => ?_)
theorem zna.mono : ∀ a0 a1 k, LeO (zna.f k a0 a1) (zna.f (k + 1) a0 a1) := by
 intro a0 a1 k
 have ih0 := zna.zyb k
 unfold zna.f
 repeat' first | (with_reducible exact ih0 _ _ _ _) | (with_reducible exact LeO.refl _) | (with_reducible exact LeO.none _) | (with_reducible refine LeO.ite ?_ ?_) | (with_reducible refine LeO.bind ?_ (fun _ => ?_)) | exact ih0 _ _ _ _ | exact LeO.none _ | refine LeO.ite ?_ ?_ | refine LeO.bind ?_ (fun _ => ?_)
set_option maxHeartbeats 8000000 in
set_option maxRecDepth 100000 in
theorem zna.calls (k : Nat) (a0 : ByteArray) (a1 : Int) (r : Int) (w : World) (h : zna.f k a0 a1 = some r) :
 Calls Try.prog 46 #[.string a0, .int .i64 a1] w fun e w' => e = .returned (.int .i64 r) ∧ zib w w' := by
 have H : (zna.l0 k a0 a1 0 0) = some r := h; clear h; have H' := zea.mk H; clear H; go_enter Try.func46, Try.ntmps46; go_wp2; (try simp only [zss_]); go_loopg [5, 6] k (fun kq v5 v6 w' => ∃ (x5_1 : Int) (x6_1 : Int), v5 = .int .i64 x5_1 ∧ v6 = .int .i64 x6_1 ∧ zea (zna.l0 kq a0 a1 x5_1 x6_1 = some r) ∧ zea (kq ≤ k) ∧ zib w w')
 case atStart => exact ⟨(0), (0), (by first | rfl | (simp [*]; done)), (by first | rfl | (simp [*]; done)), H', ⟨Nat.le_refl _⟩, by repeat (first | exact zib.refl _ | apply zib.step)⟩
 case round =>
  clear H'; (try clear p2); obtain ⟨x5_1, x6_1, rfl, rfl, HA, HK1, ⟨m1, rfl⟩⟩ := hrel
  cases gk with
  | zero => exact absurd HA.out (by simp [zna.l0])
  | succ k1 =>
   have H := HA.out; clear HA; simp only [zna.l0] at H; by_cases c3 : x6_1 < (a0.size : Int)
   · rw [if_pos c3] at H; have c3b0 : decide (x6_1 < (a0.size : Int)) = true := decide_eq_true c3; clear c3; by_cases c4 : 0 ≤ x6_1
     · rw [if_pos c4] at H; have c4b0 : decide (0 ≤ x6_1) = true := decide_eq_true c4; clear c4; by_cases c7 : (bt a0 x6_1) ≥ 65
       · rw [if_pos c7] at H; have c7b0 : decide (65 ≤ (bt a0 x6_1)) = true := decide_eq_true c7; clear c7; have H' := zea.mk H; clear H; have p5 : 0 ≤ (x6_1 : Int) := of_decide_eq_true (by with_reducible assumption); have q5 : x6_1 < (a0.size : Int) := of_decide_eq_true (by with_reducible assumption); have hx5 := bt_at a0 x6_1; replace p5 := eq_true p5; replace q5 := eq_true q5; have p6 : 0 ≤ (x6_1 : Int) := of_decide_eq_true (by with_reducible assumption); have q6 : x6_1 < (a0.size : Int) := of_decide_eq_true (by with_reducible assumption); have hx6 := bt_at a0 x6_1; replace p6 := eq_true p6; replace q6 := eq_true q6; have p8 : 0 ≤ (x6_1 : Int) := of_decide_eq_true (by with_reducible assumption); have q8 : x6_1 < (a0.size : Int) := of_decide_eq_true (by with_reducible assumption); have hx8 := bt_at a0 x6_1; replace p8 := eq_true p8; replace q8 := eq_true q8; go_wp2; go_roundg k1
         case measure => have := HK1.out; omega
         case rel => exact ⟨(wrap64 ((wrap64 (x5_1 * a1)) + ((((bt a0 x6_1) - 65) % 256) + 10))), (wrap64 (x6_1 + 1)), (by first | rfl | (simp [*]; done)), (by first | rfl | (simp [*]; done)), H', ⟨by have := HK1.out; omega⟩, by repeat (first | exact zib.refl _ | apply zib.step)⟩
       · rw [if_neg c7] at H; have c7b0 : decide (65 ≤ (bt a0 x6_1)) = false := decide_eq_false c7; clear c7; have H' := zea.mk H; clear H; have p5 : 0 ≤ (x6_1 : Int) := of_decide_eq_true (by with_reducible assumption); have q5 : x6_1 < (a0.size : Int) := of_decide_eq_true (by with_reducible assumption); have hx5 := bt_at a0 x6_1; replace p5 := eq_true p5; replace q5 := eq_true q5; have p6 : 0 ≤ (x6_1 : Int) := of_decide_eq_true (by with_reducible assumption); have q6 : x6_1 < (a0.size : Int) := of_decide_eq_true (by with_reducible assumption); have hx6 := bt_at a0 x6_1; replace p6 := eq_true p6; replace q6 := eq_true q6; go_wp2; go_roundg k1
         case measure => have := HK1.out; omega
         case rel => exact ⟨(wrap64 ((wrap64 (x5_1 * a1)) + (((bt a0 x6_1) - 48) % 256))), (wrap64 (x6_1 + 1)), (by first | rfl | (simp [*]; done)), (by first | rfl | (simp [*]; done)), H', ⟨by have := HK1.out; omega⟩, by repeat (first | exact zib.refl _ | apply zib.step)⟩
     · rw [if_neg c4] at H; exact absurd H (by simp)
   · rw [if_neg c3] at H; have c3b0 : decide (x6_1 < (a0.size : Int)) = false := decide_eq_false c3; clear c3; obtain rfl := Option.some.inj H; go_wp2; go_ret; exact ⟨by first | rfl | (simp; done) | (simp [*]; done), by repeat (first | exact zib.refl _ | apply zib.step)⟩
end Go.Proofs.Ytiplbhjllkfemaa.MAll
