-- written by mp.py, a program of this session's over the kit's printer
import Derived.Test.YtiplbhjllkfemaaMAllx0
import Derived.Test.YtiplbhjllkfemaaMAllx2
namespace Go.Proofs.Ytiplbhjllkfemaa.MAll
open Go.RowKit Go.Proofs.YtiplbhjllkfemaaW.PrintWords Go.Proofs.YtiplbhjllkfemaaW.PrintLast Go.Proofs.YtiplbhjllkfemaaW.PrintMore
attribute [local go_sem] zxd zvd zqe zpe zjd zid zwd ztd   -- for this text's walks alone
set_option linter.unusedVariables false
set_option linter.unusedSimpArgs false
mutual
def zxb.l0 : Nat → Int → Int → Option (List Int)
 | 0, _, _ => none
 | k + 1, x0, x3 => if x3 < 1304 then ((ztb.f k zlb x3).bind fun bt142 => (if bt142.1 < x0 then ((zjc.f k zlb x3).bind fun t144 => (zxb.l0 k x0 t144)) else (zxb.l1 k x0 bt142.1 bt142.2 ([] : List Int)))) else (some ([] : List Int))
def zxb.l1 : Nat → Int → Int → Int → List Int → Option (List Int)
 | 0, _, _, _, _ => none
 | k + 1, x0, x4, x5, x6 => if x4 = x0 then (if x5 < 1304 then (if 0 ≤ x5 then (if x5 < (zlb.size : Int) then (if (bt zlb x5) = 32 then ((ztb.f k zlb (wrap64 (x5 + 1))).bind fun bt145 => (if x6.length < 17592186044416 then (zxb.l1 k x0 x4 bt145.2 (x6 ++ [bt145.1])) else (none))) else (some x6)) else (none)) else (none)) else (some x6)) else (some x6)
end
def zxb.f (k : Nat) (a0 : Int) : Option (List Int) := if a0 < 192 then (some ([] : List Int)) else (zxb.l0 k a0 0)
theorem zxb.zyb : ∀ k, (∀ y0 y1, LeO (zxb.l0 k y0 y1) (zxb.l0 (k + 1) y0 y1)) ∧ (∀ y0 y1 y2 y3, LeO (zxb.l1 k y0 y1 y2 y3) (zxb.l1 (k + 1) y0 y1 y2 y3))
 | 0 => ⟨fun _ _ r h => by simp [zxb.l0] at h, fun _ _ _ _ r h => by simp [zxb.l1] at h⟩
 | k + 1 => by
  obtain ⟨ih0, ih1⟩ := zxb.zyb k
  refine ⟨?_, ?_⟩
  · intro y0 y1
    unfold zxb.l0
    repeat' first | (with_reducible exact ih0 _ _) | (with_reducible exact ih1 _ _ _ _) | (with_reducible exact ztb.mono _ _ _) | (with_reducible exact zjc.mono _ _ _) | (with_reducible exact LeO.refl _) | (with_reducible exact LeO.none _) | (with_reducible refine LeO.ite ?_ ?_) | (with_reducible refine LeO.bind ?_ (fun _ => ?_)) | exact ih0 _ _ | exact ih1 _ _ _ _ | exact ztb.mono _ _ _ | exact zjc.mono _ _ _ | exact LeO.none _ | refine LeO.ite ?_ ?_ | refine LeO.bind ?_ (fun _ => ?_)
  · intro y0 y1 y2 y3
    unfold zxb.l1
    repeat' first | (with_reducible exact ih0 _ _) | (with_reducible exact ih1 _ _ _ _) | (with_reducible exact ztb.mono _ _ _) | (with_reducible exact zjc.mono _ _ _) | (with_reducible exact LeO.refl _) | (with_reducible exact LeO.none _) | (with_reducible refine LeO.ite ?_ ?_) | (with_reducible refine LeO.bind ?_ (fun _ => ?_)) | exact ih0 _ _ | exact ih1 _ _ _ _ | exact ztb.mono _ _ _ | exact zjc.mono _ _ _ | exact LeO.none _ | refine LeO.ite ?_ ?_ | refine LeO.bind ?_ (fun _ => ?_)
theorem zxb.mono : ∀ a0 k, LeO (zxb.f k a0) (zxb.f (k + 1) a0) := by
 intro a0 k
 obtain ⟨ih0, ih1⟩ := zxb.zyb k
 unfold zxb.f
 repeat' first | (with_reducible exact ih0 _ _) | (with_reducible exact ih1 _ _ _ _) | (with_reducible exact ztb.mono _ _ _) | (with_reducible exact zjc.mono _ _ _) | (with_reducible exact LeO.refl _) | (with_reducible exact LeO.none _) | (with_reducible refine LeO.ite ?_ ?_) | (with_reducible refine LeO.bind ?_ (fun _ => ?_)) | exact ih0 _ _ | exact ih1 _ _ _ _ | exact ztb.mono _ _ _ | exact zjc.mono _ _ _ | exact LeO.none _ | refine LeO.ite ?_ ?_ | refine LeO.bind ?_ (fun _ => ?_)
set_option maxHeartbeats 8000000 in
set_option maxRecDepth 100000 in
theorem zxb.calls (k : Nat) (a0 : Int) (r : List Int) (w : World) (h : zxb.f k a0 = some r) :
 Calls Try.prog 69 #[.int .i64 a0] w fun e w' => ∃ v0_ : Value, e = .returned (v0_) ∧ Kd.R (Kd.int .i64) 3 w' w.heap.size (fun _ => True) v0_ r ∧ Below w.heap.size w w' := by
 have HB := zea.mk (Below.refl w.heap.size w); have H : (if a0 < 192 then (some ([] : List Int)) else (zxb.l0 k a0 0)) = some r := h; clear h; by_cases c2 : a0 < 192
 · rw [if_pos c2] at H; have c2b0 : decide (a0 < 192) = true := decide_eq_true c2; clear c2; obtain rfl := Option.some.inj H; go_enter Try.func69, Try.ntmps69; rw [← zyd]; go_wp2; go_ret; exact ⟨_, by first | rfl | (simp [zra, zqa] <;> rfl) | (simp [*, zra, zqa] <;> rfl), by first | exact Kd.R_nil _ _ _ _ _ | exact Kd.N_nil _ _ _ _ _ | exact Kd.V_nil _ _ _ _ _ | exact Kd.Q_nil _ _ _ _ _ | exact Kd.S_nil _ _ _ _ _, by repeat (with_reducible first | exact HB.out | apply zfa | apply zca | apply zda)⟩
 · rw [if_neg c2] at H; have c2b0 : decide (a0 < 192) = false := decide_eq_false c2; clear c2; have H' := zea.mk H; clear H; go_enter Try.func69, Try.ntmps69; rw [← zyd]; go_wp2; (try simp only [zss_]); go_loopg [3] k (fun kq v3 w' => ∃ (x3_1 : Int), v3 = .int .i64 x3_1 ∧ zea (zxb.l0 kq a0 x3_1 = some r) ∧ zea (kq ≤ k) ∧ zea (Below w.heap.size w w'))
   case atStart => exact ⟨(0), (by first | rfl | (simp [*]; done)), H', ⟨Nat.le_refl _⟩, ⟨by repeat (with_reducible first | exact HB.out | apply zfa | apply zca | apply zda)⟩⟩
   case round =>
    clear H'
    (try clear c2); (try clear c2b0); (try clear p2)
    obtain ⟨x3_1, rfl, HA, HK1, HB⟩ := hrel
    cases gk with
    | zero => exact absurd HA.out (by simp [zxb.l0])
    | succ k1 =>
     have H := HA.out; clear HA; simp only [zxb.l0] at H; by_cases c3 : x3_1 < 1304
     · rw [if_pos c3] at H; have c3b0 : decide (x3_1 < 1304) = true := decide_eq_true c3; clear c3; replace H := Option.bind_eq_some_iff.mp H; obtain ⟨⟨t142, t143⟩, A40, H⟩ := H; replace H : (if t142 < a0 then ((zjc.f k1 zlb x3_1).bind fun t144 => (zxb.l0 k1 a0 t144)) else (zxb.l1 k1 a0 t142 t143 ([] : List Int))) = some r := H; have A4 := zea.mk A40; clear A40; by_cases c5 : t142 < a0
       · rw [if_pos c5] at H; have c5b0 : decide (t142 < a0) = true := decide_eq_true c5; clear c5; replace H := Option.bind_eq_some_iff.mp H; obtain ⟨t144, A60, H⟩ := H; replace H : (zxb.l0 k1 a0 t144) = some r := H; have A6 := zea.mk A60; clear A60; have H' := zea.mk H; clear H; go_wp2_with (first | ((with_reducible refine zab (f := 71) rfl ?_); refine zhc (some 16) rfl rfl Try.func71 (by kernel_rfl) rfl #[.string zlb, .int .i64 x3_1] rfl (by (try simp only [List.map_toArray, List.map_cons, List.map_nil]); first | done | rfl | (simp only [List.length_drop, List.length_take]; rfl)) ?_; (with_reducible refine (ztb.calls k1 zlb x3_1 t142 t143 _ A4.out).mono ?_); rintro e w' ⟨rfl, ⟨nd, rfl⟩⟩; refine ⟨_, rfl, ?_⟩) | ((with_reducible refine zab (f := 70) rfl ?_); refine zhc (some 13) rfl rfl Try.func70 (by kernel_rfl) rfl #[.string zlb, .int .i64 x3_1] rfl (by (try simp only [List.map_toArray, List.map_cons, List.map_nil]); first | done | rfl | (simp only [List.length_drop, List.length_take]; rfl)) ?_; (with_reducible refine (zjc.calls k1 zlb x3_1 t144 _ A6.out).mono ?_); rintro e w' ⟨rfl, ⟨nd, rfl⟩⟩; refine ⟨_, rfl, ?_⟩)); go_roundg k1
         case measure => have := HK1.out; omega
         case rel => exact ⟨(t144), (by first | rfl | (simp [*]; done)), H', ⟨by have := HK1.out; omega⟩, ⟨by repeat (with_reducible first | exact HB.out | apply zfa | apply zca | apply zda)⟩⟩
       · rw [if_neg c5] at H; have c5b0 : decide (t142 < a0) = false := decide_eq_false c5; clear c5; have H' := zea.mk H; clear H; go_wp2_with (first | ((with_reducible refine zab (f := 71) rfl ?_); refine zhc (some 16) rfl rfl Try.func71 (by kernel_rfl) rfl #[.string zlb, .int .i64 x3_1] rfl (by (try simp only [List.map_toArray, List.map_cons, List.map_nil]); first | done | rfl | (simp only [List.length_drop, List.length_take]; rfl)) ?_; (with_reducible refine (ztb.calls k1 zlb x3_1 t142 t143 _ A4.out).mono ?_); rintro e w' ⟨rfl, ⟨nd, rfl⟩⟩; refine ⟨_, rfl, ?_⟩)); (try simp only [zss_]); go_loopg [5, 6] k1 (fun kq v5 v6 w' => ∃ (x5_2 : Int) (x6_2 : List Int), v5 = .int .i64 x5_2 ∧ zea (zxb.l1 kq a0 t142 x5_2 x6_2 = some r) ∧ zea (kq ≤ k1) ∧ zea (Kd.R (Kd.int .i64) 3 w' w.heap.size (fun _ => True) v6 x6_2) ∧ zea (Below w.heap.size w w'))
         case atStart => exact ⟨(t143), (([] : List Int)), (by first | rfl | (simp [*]; done)), H', ⟨Nat.le_refl _⟩, ⟨by first | exact Kd.R_nil _ _ _ _ _ | exact Kd.N_nil _ _ _ _ _ | exact Kd.V_nil _ _ _ _ _ | exact Kd.Q_nil _ _ _ _ _ | exact Kd.S_nil _ _ _ _ _⟩, ⟨by repeat (with_reducible first | exact HB.out | apply zfa | apply zca | apply zda)⟩⟩
         case round =>
          clear H'
          (try clear c2); (try clear c2b0); (try clear p2); (try clear c3); (try clear c3b0); (try clear c5); (try clear c5b0); (try clear c6); (try clear p2)
          obtain ⟨x5_2, x6_2, rfl, HA, HK2, HO_6, HB⟩ := hrel
          cases gk with
          | zero => exact absurd HA.out (by simp [zxb.l1])
          | succ k2 =>
           have H := HA.out; clear HA; simp only [zxb.l1] at H; by_cases c7 : t142 = a0
           · rw [if_pos c7] at H; have c7b0 : (t142 == a0) = true := beq_iff_eq.mpr c7; have c7b1 : (t142 != a0) = false := bne_eq_false_iff_eq.mpr c7; clear c7; by_cases c8 : x5_2 < 1304
             · rw [if_pos c8] at H; have c8b0 : decide (x5_2 < 1304) = true := decide_eq_true c8; clear c8; by_cases c9 : 0 ≤ x5_2
               · rw [if_pos c9] at H; have c9b0 : decide (0 ≤ x5_2) = true := decide_eq_true c9; clear c9; by_cases c10 : x5_2 < (zlb.size : Int)
                 · rw [if_pos c10] at H; have c10b0 : decide (x5_2 < (zlb.size : Int)) = true := decide_eq_true c10; clear c10; by_cases c12 : (bt zlb x5_2) = 32
                   · rw [if_pos c12] at H; have c12b0 : ((bt zlb x5_2) == 32) = true := beq_iff_eq.mpr c12; have c12b1 : ((bt zlb x5_2) != 32) = false := bne_eq_false_iff_eq.mpr c12; clear c12; replace H := Option.bind_eq_some_iff.mp H; obtain ⟨⟨t145, t146⟩, A130, H⟩ := H; replace H : (if x6_2.length < 17592186044416 then (zxb.l1 k2 a0 t142 t146 (x6_2 ++ [t145])) else (none)) = some r := H; have A13 := zea.mk A130; clear A130; by_cases c14 : x6_2.length < 17592186044416
                     · rw [if_pos c14] at H; have LMc14 := zea.mk c14; clear c14
                       obtain ⟨y147, hy147⟩ : ∃ y_ : List Int, y_ = (x6_2 ++ [t145]) := ⟨_, rfl⟩
                       replace H : (zxb.l1 k2 a0 t142 t146 y147) = some r := by first | (rw [hy147]; with_reducible exact H) | (have H2_ := (Option.bind_some _ _).symm.trans H; rw [hy147]; with_reducible exact H2_) | (have H2_ := (Option.bind_some _ _).symm.trans H; with_reducible exact H2_) | with_reducible exact H | (rw [hy147]; exact H) | exact H
                       have Ny147 := zea.mk hy147; clear hy147; have H' := zea.mk H; clear H; have p11 : 0 ≤ (x5_2 : Int) := of_decide_eq_true (by with_reducible assumption); have q11 : x5_2 < (zlb.size : Int) := of_decide_eq_true (by with_reducible assumption); have hx11 := bt_at zlb x5_2; replace p11 := eq_true p11; replace q11 := eq_true q11; go_wp2_with (first | ((with_reducible refine zab (f := 71) rfl ?_); refine zhc (some 37) rfl rfl Try.func71 (by kernel_rfl) rfl #[.string zlb, .int .i64 (wrap64 (x5_2 + 1))] rfl (by (try simp only [List.map_toArray, List.map_cons, List.map_nil]); first | done | rfl | (simp only [List.length_drop, List.length_take]; rfl)) ?_; (with_reducible refine (ztb.calls k2 zlb (wrap64 (x5_2 + 1)) t145 t146 _ A13.out).mono ?_); rintro e w' ⟨rfl, ⟨nd, rfl⟩⟩; refine ⟨_, rfl, ?_⟩) | ((with_reducible refine zqc (b := .append) (xs := #[.tmp 40, .tmp 42]) rfl ?_); at_builtin; refine Kd.zkd (Kd.int .i64) (w0 := w) w.heap.size rfl (.tmp 40) (.tmp 42) 27 3 (.int .i64 0) 8 rfl Try.underlying27 info3 rfl (by decide) (by omega) u6 x6_2 t145 [.int .i64 t145] (fun _ => True) (fun _ => False) rfl rfl ?aP (fun _ hk => hk.elim) ?aF ?aO ?aB ?aS ?aL ?_; (case aP => exact rfl); (case aB => exact (by repeat (with_reducible first | exact HB.out | apply zfa | apply zca | apply zda))); (case aF => exact (fun _ _ => trivial)); (case aO => exact (by (with_reducible repeat (first | apply Kd.zpa | apply Kd.zoa | apply Kd.zwa)); exact HO_6.out)); (case aS => exact (zdb (by repeat (with_reducible first | exact HB.out | apply zfa | apply zca | apply zda)))); (case aL => have := LMc14.out; omega); intro v148 w15 ho hb hg hat; rw [← Ny147.out] at ho; have n0_ := zea.mk (hb); have n1_ := zea.mk (ho); clear HB; clear HO_6; have HB := n0_; have HO149 := n1_; clear n0_ n1_; clear ho hb hg hat)); go_roundg k2
                       case measure => have := HK1.out; have := HK2.out; omega
                       case rel => exact ⟨(t146), (y147), (by first | rfl | (simp [*]; done)), H', ⟨by have := HK1.out; have := HK2.out; omega⟩, ⟨by (with_reducible repeat (first | apply Kd.zpa | apply Kd.zoa | apply Kd.zwa)); exact HO149.out⟩, ⟨by repeat (with_reducible first | exact HB.out | apply zfa | apply zca | apply zda)⟩⟩
                     · rw [if_neg c14] at H; exact absurd H (by simp)
                   · rw [if_neg c12] at H; have c12b0 : ((bt zlb x5_2) == 32) = false := beq_eq_false_iff_ne.mpr c12; have c12b1 : ((bt zlb x5_2) != 32) = true := bne_iff_ne.mpr c12; obtain rfl := Option.some.inj H; have p11 : 0 ≤ (x5_2 : Int) := of_decide_eq_true (by with_reducible assumption); have q11 : x5_2 < (zlb.size : Int) := of_decide_eq_true (by with_reducible assumption); have hx11 := bt_at zlb x5_2; replace p11 := eq_true p11; replace q11 := eq_true q11; go_wp2; go_ret; exact ⟨_, by first | rfl | (simp [zra, zqa] <;> rfl) | (simp [*, zra, zqa] <;> rfl), by (with_reducible repeat (first | apply Kd.zpa | apply Kd.zoa | apply Kd.zwa)); exact HO_6.out, by repeat (with_reducible first | exact HB.out | apply zfa | apply zca | apply zda)⟩
                 · rw [if_neg c10] at H; exact absurd H (by simp)
               · rw [if_neg c9] at H; exact absurd H (by simp)
             · rw [if_neg c8] at H; have c8b0 : decide (x5_2 < 1304) = false := decide_eq_false c8; clear c8; obtain rfl := Option.some.inj H; go_wp2; go_ret; exact ⟨_, by first | rfl | (simp [zra, zqa] <;> rfl) | (simp [*, zra, zqa] <;> rfl), by (with_reducible repeat (first | apply Kd.zpa | apply Kd.zoa | apply Kd.zwa)); exact HO_6.out, by repeat (with_reducible first | exact HB.out | apply zfa | apply zca | apply zda)⟩
           · rw [if_neg c7] at H; have c7b0 : (t142 == a0) = false := beq_eq_false_iff_ne.mpr c7; have c7b1 : (t142 != a0) = true := bne_iff_ne.mpr c7; obtain rfl := Option.some.inj H; go_wp2; go_ret; exact ⟨_, by first | rfl | (simp [zra, zqa] <;> rfl) | (simp [*, zra, zqa] <;> rfl), by (with_reducible repeat (first | apply Kd.zpa | apply Kd.zoa | apply Kd.zwa)); exact HO_6.out, by repeat (with_reducible first | exact HB.out | apply zfa | apply zca | apply zda)⟩
     · rw [if_neg c3] at H; have c3b0 : decide (x3_1 < 1304) = false := decide_eq_false c3; clear c3; obtain rfl := Option.some.inj H; go_wp2; go_ret; exact ⟨_, by first | rfl | (simp [zra, zqa] <;> rfl) | (simp [*, zra, zqa] <;> rfl), by first | exact Kd.R_nil _ _ _ _ _ | exact Kd.N_nil _ _ _ _ _ | exact Kd.V_nil _ _ _ _ _ | exact Kd.Q_nil _ _ _ _ _ | exact Kd.S_nil _ _ _ _ _, by repeat (with_reducible first | exact HB.out | apply zfa | apply zca | apply zda)⟩
theorem zqb.nil_ (a0 : Int) (w : World) (h : a0 < 44032 ∨ 55204 ≤ a0) : Calls Try.prog 68 #[.int .i64 a0] w fun e w' => e = .returned (.slice none 0 0) ∧ w = w' := by
  by_cases h1 : a0 < 44032
  · have b1 : decide (a0 < 44032) = true := decide_eq_true h1
    clear h h1
    go_enter Try.func68, Try.ntmps68
    go_wp2
    go_ret
    exact ⟨rfl, rfl⟩
  · have b1 : decide (a0 < 44032) = false := decide_eq_false h1
    have b2 : decide (55204 ≤ a0) = true := decide_eq_true (by omega)
    clear h h1
    go_enter Try.func68, Try.ntmps68
    go_wp2
    go_ret
    exact ⟨rfl, rfl⟩
theorem zqb.out_ {k : Nat} {a0 : Int} (h : zqb.f k a0 = some []) : a0 < 44032 ∨ 55204 ≤ a0 := by
  unfold zqb.f at h
  by_cases h1 : a0 < 44032
  · exact .inl h1
  · rw [if_neg h1] at h
    by_cases h2 : 55204 ≤ a0
    · exact .inr h2
    · exfalso
      rw [decide_eq_false (show ¬ a0 ≥ 55204 from h2)] at h
      cases k with
      | zero => cases h
      | succ k =>
        rw [zqb.j0, if_neg Bool.false_ne_true, Option.bind_some] at h
        split at h
        · split at h
          · simp at h
          · cases h
        · simp at h
theorem zxb.l1_more_ : ∀ (k : Nat) (a b c : Int) (l r : List Int), zxb.l1 k a b c l = some r → l ≠ [] → r ≠ []
  | 0, _, _, _, _, _, h, _ => by cases h
  | k + 1, a, b, c, l, r, h, hl => by
    rw [zxb.l1] at h
    repeat' split at h
    all_goals first
      | (obtain ⟨x, hx, h2⟩ := Option.bind_eq_some_iff.1 h
         exact zxb.l1_more_ k _ _ _ _ _ h2 (by simp))
      | (obtain ⟨x, hx, h2⟩ := Option.bind_eq_some_iff.1 h
         cases h2; done)
      | (obtain ⟨x, hx, h2⟩ := Option.bind_eq_some_iff.1 h
         split at h2
         · exact zxb.l1_more_ k _ _ _ _ _ h2 (by simp)
         · cases h2)
      | (cases h; done)
      | (obtain rfl := Option.some.inj h; exact hl)
set_option maxHeartbeats 8000000 in
set_option maxRecDepth 100000 in
theorem zxb.nil_ (k : Nat) (a0 : Int) (w : World) (h : zxb.f k a0 = some []) :
    Calls Try.prog 69 #[.int .i64 a0] w fun e w' => e = .returned (.slice none 0 0) ∧ Below w.heap.size w w' := by
  have HB := zea.mk (Below.refl w.heap.size w)
  unfold zxb.f at h
  by_cases c2 : a0 < 192
  · have c2b0 : decide (a0 < 192) = true := decide_eq_true c2
    clear h c2
    go_enter Try.func69, Try.ntmps69
    go_wp2
    go_ret
    exact ⟨rfl, HB.out⟩
  · rw [if_neg c2] at h
    have c2b0 : decide (a0 < 192) = false := decide_eq_false c2
    have H' := zea.mk h
    clear h c2
    go_enter Try.func69, Try.ntmps69
    rw [← zyd]
    go_wp2
    go_loopg [3] k (fun kq v3 w' => ∃ (x3_1 : Int), v3 = .int .i64 x3_1 ∧ zea (zxb.l0 kq a0 x3_1 = some []) ∧ zea (kq ≤ k) ∧ zea (Below w.heap.size w w'))
    case atStart => exact ⟨0, rfl, H', ⟨Nat.le_refl _⟩, HB⟩
    case round =>
      clear H'
      obtain ⟨x3_1, rfl, HA, HK1, HB⟩ := hrel
      cases gk with
      | zero => exact absurd HA.out (by simp [zxb.l0])
      | succ k1 =>
        have H := HA.out
        clear HA
        rw [zxb.l0] at H
        by_cases c3 : x3_1 < 1304
        · rw [if_pos c3] at H
          have c3b0 : decide (x3_1 < 1304) = true := decide_eq_true c3
          clear c3
          obtain ⟨⟨t107, t108⟩, A40, H⟩ := Option.bind_eq_some_iff.mp H
          replace H : (if t107 < a0 then ((zjc.f k1 zlb x3_1).bind fun t109 => (zxb.l0 k1 a0 t109)) else (zxb.l1 k1 a0 t107 t108 ([] : List Int))) = some [] := H
          have A4 := zea.mk A40
          clear A40
          by_cases c5 : t107 < a0
          · rw [if_pos c5] at H
            have c5b0 : decide (t107 < a0) = true := decide_eq_true c5
            clear c5
            obtain ⟨t109, A60, H⟩ := Option.bind_eq_some_iff.mp H
            have A6 := zea.mk A60
            clear A60
            have H' := zea.mk H
            clear H
            go_wp2_with (first | (go_at_call 71; (with_reducible refine (ztb.calls k1 zlb x3_1 t107 t108 _ A4.out).mono ?_); rintro e w' ⟨rfl, ⟨nd, rfl⟩⟩) | (go_at_call 70; (with_reducible refine (zjc.calls k1 zlb x3_1 t109 _ A6.out).mono ?_); rintro e w' ⟨rfl, ⟨nd, rfl⟩⟩))
            go_roundg k1
            case measure => have := HK1.out; omega
            case rel => exact ⟨t109, rfl, H', ⟨by have := HK1.out; omega⟩, ⟨by repeat (with_reducible first | exact HB.out | apply zfa | apply zca | apply zda)⟩⟩
          · rw [if_neg c5] at H
            have c5b0 : decide (t107 < a0) = false := decide_eq_false c5
            clear c5
            have H' := zea.mk H
            clear H
            go_wp2_with (go_at_call 71; (with_reducible refine (ztb.calls k1 zlb x3_1 t107 t108 _ A4.out).mono ?_); rintro e w' ⟨rfl, ⟨nd, rfl⟩⟩)
            go_loopg [5, 6] k1 (fun kq v5 v6 w' => ∃ (x5_2 : Int), v5 = .int .i64 x5_2 ∧ v6 = .slice none 0 0 ∧ zea (zxb.l1 kq a0 t107 x5_2 [] = some []) ∧ zea (kq ≤ k1) ∧ zea (Below w.heap.size w w'))
            case atStart => exact ⟨t108, rfl, rfl, H', ⟨Nat.le_refl _⟩, ⟨by repeat (with_reducible first | exact HB.out | apply zfa | apply zca | apply zda)⟩⟩
            case round =>
              clear H'
              obtain ⟨x5_2, rfl, rfl, HA, HK2, HB⟩ := hrel
              cases gk with
              | zero => exact absurd HA.out (by simp [zxb.l1])
              | succ k2 =>
                have H := HA.out
                clear HA
                rw [zxb.l1] at H
                by_cases c7 : t107 = a0
                · rw [if_pos c7] at H
                  have c7b0 : (t107 == a0) = true := beq_iff_eq.mpr c7
                  have c7b1 : (t107 != a0) = false := bne_eq_false_iff_eq.mpr c7
                  clear c7
                  by_cases c8 : x5_2 < 1304
                  · rw [if_pos c8] at H
                    have c8b0 : decide (x5_2 < 1304) = true := decide_eq_true c8
                    clear c8
                    by_cases c9 : 0 ≤ x5_2
                    · rw [if_pos c9] at H
                      have c9b0 : decide (0 ≤ x5_2) = true := decide_eq_true c9
                      by_cases c10 : x5_2 < (zlb.size : Int)
                      · rw [if_pos c10] at H
                        have c10b0 : decide (x5_2 < (zlb.size : Int)) = true := decide_eq_true c10
                        by_cases c12 : (bt zlb x5_2) = 32
                        · rw [if_pos c12] at H
                          exfalso
                          obtain ⟨⟨t110, t111⟩, A130, H⟩ := Option.bind_eq_some_iff.mp H
                          split at H
                          · exact zxb.l1_more_ _ _ _ _ _ _ H (by simp) rfl
                          · cases H
                        · rw [if_neg c12] at H
                          have c12b0 : ((bt zlb x5_2) == 32) = false := beq_eq_false_iff_ne.mpr c12
                          have c12b1 : ((bt zlb x5_2) != 32) = true := bne_iff_ne.mpr c12
                          clear H
                          have hx11 := bt_at zlb x5_2
                          have p11 := eq_true c9
                          have q11 := eq_true c10
                          clear c9 c10
                          go_wp2
                          go_ret
                          exact ⟨rfl, by repeat (with_reducible first | exact HB.out | apply zfa | apply zca | apply zda)⟩
                      · rw [if_neg c10] at H; cases H
                    · rw [if_neg c9] at H; cases H
                  · have c8b0 : decide (x5_2 < 1304) = false := decide_eq_false c8
                    clear c8 H
                    go_wp2
                    go_ret
                    exact ⟨rfl, by repeat (with_reducible first | exact HB.out | apply zfa | apply zca | apply zda)⟩
                · have c7b0 : (t107 == a0) = false := beq_eq_false_iff_ne.mpr c7
                  have c7b1 : (t107 != a0) = true := bne_iff_ne.mpr c7
                  clear H
                  go_wp2
                  go_ret
                  exact ⟨rfl, by repeat (with_reducible first | exact HB.out | apply zfa | apply zca | apply zda)⟩
        · have c3b0 : decide (x3_1 < 1304) = false := decide_eq_false c3
          clear c3 H
          go_wp2
          go_ret
          exact ⟨rfl, by repeat (with_reducible first | exact HB.out | apply zfa | apply zca | apply zda)⟩
def zed.f (k : Nat) (a0 : Int) : Option (List Int) :=
  (zqb.f k a0).bind fun l => if l = [] then (zxb.f k a0).bind fun m => if m = [] then some [a0] else some m else some l
theorem zed.mono : ∀ a0 k, LeO (zed.f k a0) (zed.f (k + 1) a0) := fun a0 k =>
  LeO.bind (zqb.mono a0 k) (fun _ => LeO.ite (LeO.bind (zxb.mono a0 k) (fun _ => LeO.refl _)) (LeO.refl _))
theorem apart_some_ {α : Type} {d : Kd α} {e base : Nat} {w : World} {ok : Nat → Prop} {v : Value} {xs : List α} (h : d.R e w base ok v xs) (hx : xs ≠ []) : ∃ ad c, v = .slice (some ad) xs.length c := by
  obtain ⟨g, c, hv, _⟩ := Kd.R_form h (List.length_pos_iff.2 hx)
  exact ⟨_, c, hv⟩
set_option maxHeartbeats 8000000 in
set_option maxRecDepth 100000 in
theorem zed.calls (k : Nat) (a0 : Int) (r : List Int) (w : World) (h : zed.f k a0 = some r) :
    Calls Try.prog 50 #[.int .i64 a0] w fun e w' => ∃ v0_ : Value, e = .returned (v0_) ∧ Kd.R (Kd.int .i64) 3 w' w.heap.size (fun _ => True) v0_ r ∧ Below w.heap.size w w' := by
  unfold zed.f at h; obtain ⟨l, hl, h⟩ := Option.bind_eq_some_iff.1 h; have HL := zea.mk hl; clear hl; have hnn := fun (x : Addr) (n c : Nat) (W : World) => run_neq_slice_nil_any (P := Try.prog) W 27 3 (some x) n c 0 0 Try.underlying27
  have hn0 := fun (W : World) => run_neq_slice_nil_any (P := Try.prog) W 27 3 none 0 0 0 0 Try.underlying27
  by_cases c1 : l = []
  · subst c1; rw [if_pos (Eq.refl ([] : List Int))] at h; have HO := zea.mk (zqb.out_ HL.out); obtain ⟨m, hm, h⟩ := Option.bind_eq_some_iff.1 h; have HM := zea.mk hm; clear hm; by_cases c2 : m = []
    · subst c2; rw [if_pos (Eq.refl ([] : List Int))] at h; obtain rfl := Option.some.inj h; clear h; go_enter Try.func50, Try.ntmps50; go_wp2_with (first | (go_at_call 68; refine (zqb.nil_ a0 _ HO.out).mono ?_; rintro e w1 ⟨rfl, rfl⟩) | (go_at_call 69; refine (zxb.nil_ k a0 _ HM.out).mono ?_; rintro e w2 ⟨rfl, hb⟩) | (((with_reducible refine zbd (N := 16) rfl ?_); refine Kd.R_lit (Kd.int .i64) _ 3 ?hg (N := 16) ?hd (xs := ([a0] : List Int)) (inner := [.int .i64 a0]) (ok := fun _ => True) (okp := fun _ => True) ?hr ?hp (fun _ hk => hk) trivial (Below.refl _ _) (Nat.le_refl _) (by simp) ?_; (case hd => rfl); (case hg => rfl); (case hr => first | (go_simp; done) | (go_simp; rfl)); (case hp => exact (Reps.one (show Kd.M (Kd.int .i64) _ _ _ a0 [.int .i64 a0] from rfl) (Reps.none _ _)))); intro v1_ w3 ho3 hb3 hg_ hnew_; clear hg_ hnew_)); go_ret; exact ⟨_, rfl, Kd.ztc ho3 (zdb hb), zbb hb hb3⟩
    · rw [if_neg c2] at h; obtain rfl := Option.some.inj h; have hne := zea.mk c2; clear h c2; go_enter Try.func50, Try.ntmps50; go_wp2_with (first | (go_at_call 68; refine (zqb.nil_ a0 _ HO.out).mono ?_; rintro e w1 ⟨rfl, rfl⟩) | (go_at_call 69; refine (zxb.calls k a0 _ _ HM.out).mono ?_; rintro e w2 ⟨v0_, rfl, hr, hb⟩; obtain ⟨ad, cc, rfl⟩ := apart_some_ hr hne.out)); go_ret; exact ⟨_, rfl, hr, hb⟩
  · rw [if_neg c1] at h; obtain rfl := Option.some.inj h; have hne := zea.mk c1; clear h c1; go_enter Try.func50, Try.ntmps50; go_wp2_with (go_at_call 68; refine (zqb.calls k a0 _ _ HL.out).mono ?_; rintro e w2 ⟨v0_, rfl, hr, hb⟩; obtain ⟨ad, cc, rfl⟩ := apart_some_ hr hne.out); go_ret; exact ⟨_, rfl, hr, hb⟩
def zvb.l0 : Nat → ByteArray → Int → Int → Option (Int)
 | 0, _, _, _ => none
 | k + 1, x0, x1, x5 => if x1 < (x0.size : Int) then (if 0 ≤ x1 then (if (bt x0 x1) ≥ 48 then (if (bt x0 x1) ≤ 57 then (zvb.l0 k x0 (wrap64 (x1 + 1)) (wrap64 ((wrap64 (10 * x5)) + (((bt x0 x1) - 48) % 256)))) else (some x5)) else (some x5)) else (none)) else (some x5)
def zvb.f (k : Nat) (a0 : ByteArray) (a1 : Int) : Option (Int) := zvb.l0 k a0 a1 0
theorem zvb.zyb : ∀ k, (∀ y0 y1 y2, LeO (zvb.l0 k y0 y1 y2) (zvb.l0 (k + 1) y0 y1 y2))
 | 0 => fun _ _ _ r h => by simp [zvb.l0] at h
 | k + 1 => by
  have ih0 := zvb.zyb k
  · intro y0 y1 y2
    unfold zvb.l0
    repeat' first | (with_reducible exact ih0 _ _ _) | (with_reducible exact LeO.refl _) | (with_reducible exact LeO.none _) | (with_reducible refine LeO.ite ?_ ?_) | (with_reducible refine LeO.bind ?_ (fun _ => ?_)) | exact ih0 _ _ _ | exact LeO.none _ | refine LeO.ite ?_ ?_ | refine LeO.bind ?_ (fun _ => ?_)
theorem zvb.mono : ∀ a0 a1 k, LeO (zvb.f k a0 a1) (zvb.f (k + 1) a0 a1) := by
 intro a0 a1 k
 have ih0 := zvb.zyb k
 unfold zvb.f
 repeat' first | (with_reducible exact ih0 _ _ _) | (with_reducible exact LeO.refl _) | (with_reducible exact LeO.none _) | (with_reducible refine LeO.ite ?_ ?_) | (with_reducible refine LeO.bind ?_ (fun _ => ?_)) | exact ih0 _ _ _ | exact LeO.none _ | refine LeO.ite ?_ ?_ | refine LeO.bind ?_ (fun _ => ?_)
set_option maxHeartbeats 8000000 in
set_option maxRecDepth 100000 in
theorem zvb.calls (k : Nat) (a0 : ByteArray) (a1 : Int) (r : Int) (w : World) (h : zvb.f k a0 a1 = some r) :
 Calls Try.prog 72 #[.string a0, .int .i64 a1] w fun e w' => e = .returned (.int .i64 r) ∧ zib w w' := by
 have H : (zvb.l0 k a0 a1 0) = some r := h; clear h; have H' := zea.mk H; clear H; go_enter Try.func72, Try.ntmps72; go_wp2; (try simp only [zss_]); go_loopg [1, 5] k (fun kq v1 v5 w' => ∃ (x1_1 : Int) (x5_1 : Int), v1 = .int .i64 x1_1 ∧ v5 = .int .i64 x5_1 ∧ zea (zvb.l0 kq a0 x1_1 x5_1 = some r) ∧ zea (kq ≤ k) ∧ zib w w')
 case atStart => exact ⟨(a1), (0), (by first | rfl | (simp [*]; done)), (by first | rfl | (simp [*]; done)), H', ⟨Nat.le_refl _⟩, by repeat (first | exact zib.refl _ | apply zib.step)⟩
 case round =>
  clear H'; (try clear p2); obtain ⟨x1_1, x5_1, rfl, rfl, HA, HK1, ⟨m1, rfl⟩⟩ := hrel
  cases gk with
  | zero => exact absurd HA.out (by simp [zvb.l0])
  | succ k1 =>
   have H := HA.out; clear HA; simp only [zvb.l0] at H; by_cases c3 : x1_1 < (a0.size : Int)
   · rw [if_pos c3] at H; have c3b0 : decide (x1_1 < (a0.size : Int)) = true := decide_eq_true c3; clear c3; by_cases c4 : 0 ≤ x1_1
     · rw [if_pos c4] at H; have c4b0 : decide (0 ≤ x1_1) = true := decide_eq_true c4; clear c4; by_cases c6 : (bt a0 x1_1) ≥ 48
       · rw [if_pos c6] at H; have c6b0 : decide (48 ≤ (bt a0 x1_1)) = true := decide_eq_true c6; clear c6; by_cases c8 : (bt a0 x1_1) ≤ 57
         · rw [if_pos c8] at H; have c8b0 : decide ((bt a0 x1_1) ≤ 57) = true := decide_eq_true c8; clear c8; have H' := zea.mk H; clear H; have p5 : 0 ≤ (x1_1 : Int) := of_decide_eq_true (by with_reducible assumption); have q5 : x1_1 < (a0.size : Int) := of_decide_eq_true (by with_reducible assumption); have hx5 := bt_at a0 x1_1; replace p5 := eq_true p5; replace q5 := eq_true q5; have p7 : 0 ≤ (x1_1 : Int) := of_decide_eq_true (by with_reducible assumption); have q7 : x1_1 < (a0.size : Int) := of_decide_eq_true (by with_reducible assumption); have hx7 := bt_at a0 x1_1; replace p7 := eq_true p7; replace q7 := eq_true q7; have p9 : 0 ≤ (x1_1 : Int) := of_decide_eq_true (by with_reducible assumption); have q9 : x1_1 < (a0.size : Int) := of_decide_eq_true (by with_reducible assumption); have hx9 := bt_at a0 x1_1; replace p9 := eq_true p9; replace q9 := eq_true q9; go_wp2; go_roundg k1
           case measure => have := HK1.out; omega
           case rel => exact ⟨(wrap64 (x1_1 + 1)), (wrap64 ((wrap64 (10 * x5_1)) + (((bt a0 x1_1) - 48) % 256))), (by first | rfl | (simp [*]; done)), (by first | rfl | (simp [*]; done)), H', ⟨by have := HK1.out; omega⟩, by repeat (first | exact zib.refl _ | apply zib.step)⟩
         · rw [if_neg c8] at H; have c8b0 : decide ((bt a0 x1_1) ≤ 57) = false := decide_eq_false c8; clear c8; obtain rfl := Option.some.inj H; have p5 : 0 ≤ (x1_1 : Int) := of_decide_eq_true (by with_reducible assumption); have q5 : x1_1 < (a0.size : Int) := of_decide_eq_true (by with_reducible assumption); have hx5 := bt_at a0 x1_1; replace p5 := eq_true p5; replace q5 := eq_true q5; have p7 : 0 ≤ (x1_1 : Int) := of_decide_eq_true (by with_reducible assumption); have q7 : x1_1 < (a0.size : Int) := of_decide_eq_true (by with_reducible assumption); have hx7 := bt_at a0 x1_1; replace p7 := eq_true p7; replace q7 := eq_true q7; go_wp2; go_ret; exact ⟨by first | rfl | (simp; done) | (simp [*]; done), by repeat (first | exact zib.refl _ | apply zib.step)⟩
       · rw [if_neg c6] at H; have c6b0 : decide (48 ≤ (bt a0 x1_1)) = false := decide_eq_false c6; clear c6; obtain rfl := Option.some.inj H; have p5 : 0 ≤ (x1_1 : Int) := of_decide_eq_true (by with_reducible assumption); have q5 : x1_1 < (a0.size : Int) := of_decide_eq_true (by with_reducible assumption); have hx5 := bt_at a0 x1_1; replace p5 := eq_true p5; replace q5 := eq_true q5; go_wp2; go_ret; exact ⟨by first | rfl | (simp; done) | (simp [*]; done), by repeat (first | exact zib.refl _ | apply zib.step)⟩
     · rw [if_neg c4] at H; exact absurd H (by simp)
   · rw [if_neg c3] at H; have c3b0 : decide (x1_1 < (a0.size : Int)) = false := decide_eq_false c3; clear c3; obtain rfl := Option.some.inj H; go_wp2; go_ret; exact ⟨by first | rfl | (simp; done) | (simp [*]; done), by repeat (first | exact zib.refl _ | apply zib.step)⟩
def zlc.l0 : Nat → Int → Int → Option (Int)
 | 0, _, _ => none
 | k + 1, x0, x3 => if x3 < 366 then ((ztb.f k zac x3).bind fun bt150 => (if bt150.1 > x0 then (some 0) else ((ztb.f k zac (wrap64 (bt150.2 + 1))).bind fun bt152 => (if x0 ≤ bt152.1 then ((zvb.f k zac (wrap64 (bt152.2 + 1))).bind fun t154 => (some t154)) else ((zjc.f k zac x3).bind fun t155 => (zlc.l0 k x0 t155)))))) else (some 0)
def zlc.f (k : Nat) (a0 : Int) : Option (Int) := if a0 < 768 then (some 0) else (zlc.l0 k a0 0)
theorem zlc.zyb : ∀ k, (∀ y0 y1, LeO (zlc.l0 k y0 y1) (zlc.l0 (k + 1) y0 y1))
 | 0 => fun _ _ r h => by simp [zlc.l0] at h
 | k + 1 => by
  have ih0 := zlc.zyb k
  · intro y0 y1
    unfold zlc.l0
    repeat' first | (with_reducible exact ih0 _ _) | (with_reducible exact zvb.mono _ _ _) | (with_reducible exact ztb.mono _ _ _) | (with_reducible exact zjc.mono _ _ _) | (with_reducible exact LeO.refl _) | (with_reducible exact LeO.none _) | (with_reducible refine LeO.ite ?_ ?_) | (with_reducible refine LeO.bind ?_ (fun _ => ?_)) | exact ih0 _ _ | exact zvb.mono _ _ _ | exact ztb.mono _ _ _ | exact zjc.mono _ _ _ | exact LeO.none _ | refine LeO.ite ?_ ?_ | refine LeO.bind ?_ (fun _ => ?_)
theorem zlc.mono : ∀ a0 k, LeO (zlc.f k a0) (zlc.f (k + 1) a0) := by
 intro a0 k
 have ih0 := zlc.zyb k
 unfold zlc.f
 repeat' first | (with_reducible exact ih0 _ _) | (with_reducible exact zvb.mono _ _ _) | (with_reducible exact ztb.mono _ _ _) | (with_reducible exact zjc.mono _ _ _) | (with_reducible exact LeO.refl _) | (with_reducible exact LeO.none _) | (with_reducible refine LeO.ite ?_ ?_) | (with_reducible refine LeO.bind ?_ (fun _ => ?_)) | exact ih0 _ _ | exact zvb.mono _ _ _ | exact ztb.mono _ _ _ | exact zjc.mono _ _ _ | exact LeO.none _ | refine LeO.ite ?_ ?_ | refine LeO.bind ?_ (fun _ => ?_)
set_option maxHeartbeats 8000000 in
set_option maxRecDepth 100000 in
theorem zlc.calls (k : Nat) (a0 : Int) (r : Int) (w : World) (h : zlc.f k a0 = some r) :
 Calls Try.prog 51 #[.int .i64 a0] w fun e w' => e = .returned (.int .i64 r) ∧ zib w w' := by
 have H : (if a0 < 768 then (some 0) else (zlc.l0 k a0 0)) = some r := h; clear h; by_cases c2 : a0 < 768
 · rw [if_pos c2] at H; have c2b0 : decide (a0 < 768) = true := decide_eq_true c2; clear c2; obtain rfl := Option.some.inj H; go_enter Try.func51, Try.ntmps51; rw [← lit_73ae92_eq]; go_wp2; go_ret; exact ⟨by first | rfl | (simp; done) | (simp [*]; done), by repeat (first | exact zib.refl _ | apply zib.step)⟩
 · rw [if_neg c2] at H; have c2b0 : decide (a0 < 768) = false := decide_eq_false c2; clear c2; have H' := zea.mk H; clear H; go_enter Try.func51, Try.ntmps51; rw [← lit_73ae92_eq]; go_wp2; (try simp only [zss_]); go_loopg [3] k (fun kq v3 w' => ∃ (x3_1 : Int), v3 = .int .i64 x3_1 ∧ zea (zlc.l0 kq a0 x3_1 = some r) ∧ zea (kq ≤ k) ∧ zib w w')
   case atStart => exact ⟨(0), (by first | rfl | (simp [*]; done)), H', ⟨Nat.le_refl _⟩, by repeat (first | exact zib.refl _ | apply zib.step)⟩
   case round =>
    clear H'
    (try clear c2); (try clear c2b0); (try clear p2)
    obtain ⟨x3_1, rfl, HA, HK1, ⟨m1, rfl⟩⟩ := hrel
    cases gk with
    | zero => exact absurd HA.out (by simp [zlc.l0])
    | succ k1 =>
     have H := HA.out; clear HA; simp only [zlc.l0] at H; by_cases c3 : x3_1 < 366
     · rw [if_pos c3] at H; have c3b0 : decide (x3_1 < 366) = true := decide_eq_true c3; clear c3; replace H := Option.bind_eq_some_iff.mp H; obtain ⟨⟨t150, t151⟩, A40, H⟩ := H; replace H : (if t150 > a0 then (some 0) else ((ztb.f k1 zac (wrap64 (t151 + 1))).bind fun bt152 => (if a0 ≤ bt152.1 then ((zvb.f k1 zac (wrap64 (bt152.2 + 1))).bind fun t154 => (some t154)) else ((zjc.f k1 zac x3_1).bind fun t155 => (zlc.l0 k1 a0 t155))))) = some r := H; have A4 := zea.mk A40; clear A40; by_cases c5 : t150 > a0
       · rw [if_pos c5] at H; have c5b0 : decide (a0 < t150) = true := decide_eq_true c5; clear c5; obtain rfl := Option.some.inj H; go_wp2_with (first | ((with_reducible refine zab (f := 71) rfl ?_); refine zhc (some 15) rfl rfl Try.func71 (by kernel_rfl) rfl #[.string zac, .int .i64 x3_1] rfl (by (try simp only [List.map_toArray, List.map_cons, List.map_nil]); first | done | rfl | (simp only [List.length_drop, List.length_take]; rfl)) ?_; (with_reducible refine (ztb.calls k1 zac x3_1 t150 t151 _ A4.out).mono ?_); rintro e w' ⟨rfl, ⟨nd, rfl⟩⟩; refine ⟨_, rfl, ?_⟩)); go_ret; exact ⟨by first | rfl | (simp; done) | (simp [*]; done), by repeat (first | exact zib.refl _ | apply zib.step)⟩
       · rw [if_neg c5] at H; have c5b0 : decide (a0 < t150) = false := decide_eq_false c5; clear c5; replace H := Option.bind_eq_some_iff.mp H; obtain ⟨⟨t152, t153⟩, A60, H⟩ := H; replace H : (if a0 ≤ t152 then ((zvb.f k1 zac (wrap64 (t153 + 1))).bind fun t154 => (some t154)) else ((zjc.f k1 zac x3_1).bind fun t155 => (zlc.l0 k1 a0 t155))) = some r := H; have A6 := zea.mk A60; clear A60; by_cases c7 : a0 ≤ t152
         · rw [if_pos c7] at H; have c7b0 : decide (a0 ≤ t152) = true := decide_eq_true c7; clear c7; replace H := Option.bind_eq_some_iff.mp H; obtain ⟨t154, A80, H⟩ := H; replace H : (some t154) = some r := H; have A8 := zea.mk A80; clear A80; obtain rfl := Option.some.inj H; go_wp2_with (first | ((with_reducible refine zab (f := 71) rfl ?_); refine zhc (some 15) rfl rfl Try.func71 (by kernel_rfl) rfl #[.string zac, .int .i64 x3_1] rfl (by (try simp only [List.map_toArray, List.map_cons, List.map_nil]); first | done | rfl | (simp only [List.length_drop, List.length_take]; rfl)) ?_; (with_reducible refine (ztb.calls k1 zac x3_1 t150 t151 _ A4.out).mono ?_); rintro e w' ⟨rfl, ⟨nd, rfl⟩⟩; refine ⟨_, rfl, ?_⟩) | ((with_reducible refine zab (f := 71) rfl ?_); refine zhc (some 24) rfl rfl Try.func71 (by kernel_rfl) rfl #[.string zac, .int .i64 (wrap64 (t151 + 1))] rfl (by (try simp only [List.map_toArray, List.map_cons, List.map_nil]); first | done | rfl | (simp only [List.length_drop, List.length_take]; rfl)) ?_; (with_reducible refine (ztb.calls k1 zac (wrap64 (t151 + 1)) t152 t153 _ A6.out).mono ?_); rintro e w' ⟨rfl, ⟨nd, rfl⟩⟩; refine ⟨_, rfl, ?_⟩) | ((with_reducible refine zab (f := 72) rfl ?_); refine zhc (some 32) rfl rfl Try.func72 (by kernel_rfl) rfl #[.string zac, .int .i64 (wrap64 (t153 + 1))] rfl (by (try simp only [List.map_toArray, List.map_cons, List.map_nil]); first | done | rfl | (simp only [List.length_drop, List.length_take]; rfl)) ?_; (with_reducible refine (zvb.calls k1 zac (wrap64 (t153 + 1)) t154 _ A8.out).mono ?_); rintro e w' ⟨rfl, ⟨nd, rfl⟩⟩; refine ⟨_, rfl, ?_⟩)); go_ret; exact ⟨by first | rfl | (simp; done) | (simp [*]; done), by repeat (first | exact zib.refl _ | apply zib.step)⟩
         · rw [if_neg c7] at H; have c7b0 : decide (a0 ≤ t152) = false := decide_eq_false c7; clear c7; replace H := Option.bind_eq_some_iff.mp H; obtain ⟨t155, A90, H⟩ := H; replace H : (zlc.l0 k1 a0 t155) = some r := H; have A9 := zea.mk A90; clear A90; have H' := zea.mk H; clear H; go_wp2_with (first | ((with_reducible refine zab (f := 71) rfl ?_); refine zhc (some 15) rfl rfl Try.func71 (by kernel_rfl) rfl #[.string zac, .int .i64 x3_1] rfl (by (try simp only [List.map_toArray, List.map_cons, List.map_nil]); first | done | rfl | (simp only [List.length_drop, List.length_take]; rfl)) ?_; (with_reducible refine (ztb.calls k1 zac x3_1 t150 t151 _ A4.out).mono ?_); rintro e w' ⟨rfl, ⟨nd, rfl⟩⟩; refine ⟨_, rfl, ?_⟩) | ((with_reducible refine zab (f := 71) rfl ?_); refine zhc (some 24) rfl rfl Try.func71 (by kernel_rfl) rfl #[.string zac, .int .i64 (wrap64 (t151 + 1))] rfl (by (try simp only [List.map_toArray, List.map_cons, List.map_nil]); first | done | rfl | (simp only [List.length_drop, List.length_take]; rfl)) ?_; (with_reducible refine (ztb.calls k1 zac (wrap64 (t151 + 1)) t152 t153 _ A6.out).mono ?_); rintro e w' ⟨rfl, ⟨nd, rfl⟩⟩; refine ⟨_, rfl, ?_⟩) | ((with_reducible refine zab (f := 70) rfl ?_); refine zhc (some 12) rfl rfl Try.func70 (by kernel_rfl) rfl #[.string zac, .int .i64 x3_1] rfl (by (try simp only [List.map_toArray, List.map_cons, List.map_nil]); first | done | rfl | (simp only [List.length_drop, List.length_take]; rfl)) ?_; (with_reducible refine (zjc.calls k1 zac x3_1 t155 _ A9.out).mono ?_); rintro e w' ⟨rfl, ⟨nd, rfl⟩⟩; refine ⟨_, rfl, ?_⟩)); go_roundg k1
           case measure => have := HK1.out; omega
           case rel => exact ⟨(t155), (by first | rfl | (simp [*]; done)), H', ⟨by have := HK1.out; omega⟩, by repeat (first | exact zib.refl _ | apply zib.step)⟩
     · rw [if_neg c3] at H; have c3b0 : decide (x3_1 < 366) = false := decide_eq_false c3; clear c3; obtain rfl := Option.some.inj H; go_wp2; go_ret; exact ⟨by first | rfl | (simp; done) | (simp [*]; done), by repeat (first | exact zib.refl _ | apply zib.step)⟩
def zfc.f (a0_0 : Int) (a0_1 : Int) (a1_0 : Int) (a1_1 : Int) : Option (Int) := some (wrap64 (a0_1 - a1_1))
set_option maxHeartbeats 8000000 in
set_option maxRecDepth 100000 in
theorem zfc.calls (a0_0 : Int) (a0_1 : Int) (a1_0 : Int) (a1_1 : Int) (r : Int) (w : World) (h : zfc.f a0_0 a0_1 a1_0 a1_1 = some r) :
 Calls Try.prog 75 #[.agg #[.int .i64 a0_0, .int .i64 a0_1], .agg #[.int .i64 a1_0, .int .i64 a1_1]] w fun e w' => e = .returned (.int .i64 r) ∧ Below w.heap.size w w' := by
 have hu94 := Try.underlying94; have HB := zea.mk (Below.refl w.heap.size w); have H : (some (wrap64 (a0_1 - a1_1))) = some r := h; clear h; obtain rfl := Option.some.inj H; go_enter Try.func75, Try.ntmps75; go_wp2_with (first | ((with_reducible refine zbd (N := 2) rfl ?_); refine box_event ?hg (N := 2) ?hd (cs := #[.int .i64 a0_0, .int .i64 a0_1]) (t := 94) ?hr ?_; (case hd => rfl); (case hg => rfl); (case hr => first | (go_simp; done) | (go_simp; rfl)); intro gb156 hg w3 hbox hb; have n0_ := zea.mk (zbb (by repeat (with_reducible first | exact HB.out | apply zfa | apply zca | apply zda)) hb); have n1_ := zea.mk (hbox); have n2_ := zea.mk ((by rw [hg]; exact (zdb (by repeat (with_reducible first | exact HB.out | apply zfa | apply zca | apply zda))) : w.heap.size ≤ gb156)); have n3_ := zea.mk ((by rw [hg]; exact (zdb (by repeat (with_reducible first | exact HB.out | apply zfa | apply zca | apply zda))) : w.heap.size ≤ gb156)); clear HB; have HB := n0_; have BK156 := n1_; have GW156 := n2_; have GE156 := n3_; clear n0_ n1_ n2_ n3_; clear hb hbox hg) | ((with_reducible refine zbd (N := 3) rfl ?_); refine box_event ?hg (N := 3) ?hd (cs := #[.int .i64 a1_0, .int .i64 a1_1]) (t := 94) ?hr ?_; (case hd => rfl); (case hg => rfl); (case hr => first | (go_simp; done) | (go_simp; rfl)); intro gb157 hg w4 hbox hb; have n0_ := zea.mk (zfe (g := gb156) (o := .cells #[.int .i64 a0_0, .int .i64 a0_1] 94 (0, 0)) (by (with_reducible repeat (first | refine zrb ?_ _ | refine zbc ?_ | refine zpb ?_ _)); exact BK156.out) hb); have n1_ := zea.mk (zbb (by repeat (first | (with_reducible first | exact HB.out | apply zfa | apply zca | apply zda | refine zkb ?_ GE156.out) | exact HB.out)) hb); have n2_ := zea.mk (hbox); have n3_ := zea.mk ((by rw [hg]; exact (zdb (by repeat (first | (with_reducible first | exact HB.out | apply zfa | apply zca | apply zda | refine zkb ?_ GE156.out) | exact HB.out))) : w.heap.size ≤ gb157)); have n4_ := zea.mk ((by rw [hg]; exact (zdb (by repeat (first | (with_reducible first | exact HB.out | apply zfa | apply zca | apply zda | refine zkb ?_ GE156.out) | exact HB.out))) : w.heap.size ≤ gb157)); have n5_ := zea.mk ((by rw [hg]; exact Nat.ne_of_lt (blk_lt (g := gb156) (o := .cells #[.int .i64 a0_0, .int .i64 a0_1] 94 (0, 0)) (by (with_reducible repeat (first | refine zrb ?_ _ | refine zbc ?_ | refine zpb ?_ _)); exact BK156.out)) : gb156 ≠ gb157)); have n6_ := zea.mk ((by rw [hg]; exact Nat.ne_of_gt (blk_lt (g := gb156) (o := .cells #[.int .i64 a0_0, .int .i64 a0_1] 94 (0, 0)) (by (with_reducible repeat (first | refine zrb ?_ _ | refine zbc ?_ | refine zpb ?_ _)); exact BK156.out)) : gb157 ≠ gb156)); clear BK156; clear HB; have BK156 := n0_; have HB := n1_; have BK157 := n2_; have GW157 := n3_; have GE157 := n4_; have NB156_157 := n5_; have NB157_156 := n6_; clear n0_ n1_ n2_ n3_ n4_ n5_ n6_; clear hb hbox hg; have hnb5 := NB156_157.out; have hnc5 := NB157_156.out; have hcz6_0 : w4.cell? ⟨gb156, 0, none⟩ = some (.int .i64 a0_0) := (zdc BK156.out 0).trans rfl; have hcz6_1 : w4.cell? ⟨gb156, 1, none⟩ = some (.int .i64 a0_1) := (zdc BK156.out 1).trans rfl; have hfz6_0 := zob BK156.out 0; have hfz6_1 := zob BK156.out 1; have hcz7_0 : w4.cell? ⟨gb157, 0, none⟩ = some (.int .i64 a1_0) := (zdc BK157.out 0).trans rfl; have hcz7_1 : w4.cell? ⟨gb157, 1, none⟩ = some (.int .i64 a1_1) := (zdc BK157.out 1).trans rfl; have hfz7_0 := zob BK157.out 0; have hfz7_1 := zob BK157.out 1)); go_ret; exact ⟨by first | rfl | (simp [zra, zqa] <;> rfl) | (simp [*, zra, zqa] <;> rfl), by repeat (first | (with_reducible first | exact HB.out | apply zfa | apply zca | apply zda | refine zkb ?_ GE156.out | refine zkb ?_ GE157.out) | exact HB.out)⟩
end Go.Proofs.Ytiplbhjllkfemaa.MAll
