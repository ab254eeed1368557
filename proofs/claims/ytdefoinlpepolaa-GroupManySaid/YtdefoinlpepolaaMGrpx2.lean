-- written by mp.py, a program of this session's over the kit's printer
import Derived.Test.YtdefoinlpepolaaMGrpx0
import Derived.Test.YtdefoinlpepolaaMGrpx1
namespace Go.Proofs.Ytdefoinlpepolaa.MGrp
open Go.RowKit Go.Proofs.YtdefoinlpepolaaW.PrintWords Go.Proofs.YtdefoinlpepolaaW.PrintLast Go.Proofs.YtdefoinlpepolaaW.PrintMore
attribute [local go_sem] max2_int min2_int max_two min_two max_three min_three max_four min_four   -- for this text's walks alone
set_option linter.unusedVariables false
set_option linter.unusedSimpArgs false

/-! ### utf_Write: function 114 -/
def utf_Write.l0 : Nat → List Int → List Int → Int → Int → Option (ByteArray × Bool)
 | 0, _, _, _, _ => none
 | k + 1, x4, x7, x8, x9 => if x9 < x8 then (if 0 ≤ x9 then (if x9 < (x7.length : Int) then ((utf_Valid.f (rd x7 x9)).bind fun t132 => (if t132 = true then ((utf_Put.f x4 (rd x7 x9)).bind fun t133 => (utf_Write.l0 k t133 x7 x8 (wrap64 (x9 + 1)))) else (some ((⟨#[]⟩ : ByteArray), false)))) else (none)) else (none)) else (some (strOfNums x4, true))
def utf_Write.f (k : Nat) (l0 : List Int) : Option (ByteArray × Bool) := utf_Write.l0 k ([] : List Int) l0 (l0.length : Int) 0
theorem utf_Write.mono_l : ∀ k, (∀ y0 y1 y2 y3, LeO (utf_Write.l0 k y0 y1 y2 y3) (utf_Write.l0 (k + 1) y0 y1 y2 y3))
 | 0 => fun _ _ _ _ r h => by simp [utf_Write.l0] at h
 | k + 1 => by
  have ih0 := utf_Write.mono_l k
  · intro y0 y1 y2 y3
    unfold utf_Write.l0
    repeat' first
    | (with_reducible exact ih0 _ _ _ _)
    | (with_reducible exact LeO.refl _)
    | (with_reducible exact LeO.none _)
    | (with_reducible refine LeO.ite ?_ ?_)
    | (with_reducible refine LeO.bind ?_ (fun _ => ?_))
    | exact ih0 _ _ _ _
    | exact LeO.none _
    | refine LeO.ite ?_ ?_
    | refine LeO.bind ?_ (fun _ => ?_)
theorem utf_Write.mono : ∀ a0 k, LeO (utf_Write.f k a0) (utf_Write.f (k + 1) a0) := by
 intro a0 k
 have ih0 := utf_Write.mono_l k
 unfold utf_Write.f
 repeat' first
  | (with_reducible exact ih0 _ _ _ _)
  | (with_reducible exact LeO.refl _)
  | (with_reducible exact LeO.none _)
  | (with_reducible refine LeO.ite ?_ ?_)
  | (with_reducible refine LeO.bind ?_ (fun _ => ?_))
  | exact ih0 _ _ _ _
  | exact LeO.none _
  | refine LeO.ite ?_ ?_
  | refine LeO.bind ?_ (fun _ => ?_)
set_option maxHeartbeats 8000000 in
set_option maxRecDepth 100000 in
theorem utf_Write.calls (k : Nat) (A0 : Option Addr) (c0 : Nat) (l0 : List Int) (r1 : ByteArray) (r2 : Bool) (w : World) (hr0 : Kd.C (Kd.int .i64) w A0 l0.length l0) (hc0 : l0.length ≤ c0) (h : utf_Write.f k l0 = some (r1, r2)) :
 Calls Try.prog 114 #[.slice A0 l0.length c0] w fun e w' => e = .returned (.tuple #[.string r1, .bool r2]) ∧ Below w.heap.size w w' := by
 have HR0 := Aside0.mk hr0
 have HC0 := Aside0.mk hc0
 clear hr0 hc0
 have HB := Aside0.mk (Below.refl w.heap.size w)
 have H : (utf_Write.l0 k ([] : List Int) l0 (l0.length : Int) 0) = some (r1, r2) := h
 clear h
 have H' := Aside0.mk H
 clear H
 go_enter Try.func114, Try.ntmps114
 go_wp2
 try simp only [Act.put, List.setIfInBounds_toArray, List.set_cons_succ, List.set_cons_zero]
 go_loopg [4, 9] k (fun kq v4 v9 w' => ∃ (x4_1 : List Int) (x9_1 : Int), v9 = .int .i64 x9_1 ∧ Aside0 (utf_Write.l0 kq x4_1 l0 (l0.length : Int) x9_1 = some (r1, r2)) ∧ Aside0 (kq ≤ k) ∧ Aside0 (Kd.R (Kd.int .u8) 5 w' w.heap.size (fun _ => True) v4 x4_1) ∧ Aside0 (Below w.heap.size w w'))
 case atStart => exact ⟨(([] : List Int)), (0), (by first | rfl | (simp; done) | (simp [*]; done)), H', ⟨Nat.le_refl _⟩, ⟨by first | exact Kd.R_nil _ _ _ _ _ | exact Kd.N_nil _ _ _ _ _ | exact Kd.V_nil _ _ _ _ _ | exact Kd.Q_nil _ _ _ _ _ | exact Kd.S_nil _ _ _ _ _⟩, ⟨by repeat (first | (with_reducible first | exact HB.out | apply below_alloc | apply pw_below_drewN | apply below_drew1) | exact HB.out)⟩⟩
 case round =>
  clear H'
  try clear c1
  obtain ⟨x4_1, x9_1, rfl, HA, HK1, HO_4, HB⟩ := hrel
  cases gk with
  | zero => exact absurd HA.out (by simp [utf_Write.l0])
  | succ k1 =>
   have H := HA.out
   clear HA
   simp only [utf_Write.l0] at H
   by_cases c2 : x9_1 < (l0.length : Int)
   · rw [if_pos c2] at H
     have c2b0 : decide (x9_1 < (l0.length : Int)) = true := decide_eq_true c2
     clear c2
     by_cases c3 : 0 ≤ x9_1
     · rw [if_pos c3] at H
       have c3b0 : decide (0 ≤ x9_1) = true := decide_eq_true c3
       clear c3
       by_cases c4 : x9_1 < (l0.length : Int)
       · rw [if_pos c4] at H
         have c4b0 : decide (x9_1 < (l0.length : Int)) = true := decide_eq_true c4
         clear c4
         replace H := Option.bind_eq_some_iff.mp H
         obtain ⟨t132, A50, H⟩ := H
         replace H : (if t132 = true then ((utf_Put.f x4_1 (rd l0 x9_1)).bind fun t133 => (utf_Write.l0 k1 t133 l0 (l0.length : Int) (wrap64 (x9_1 + 1)))) else (some ((⟨#[]⟩ : ByteArray), false))) = some (r1, r2) := H
         have A5 := Aside0.mk A50
         clear A50
         by_cases c6 : t132 = true
         · subst c6
           have H1 : ((utf_Put.f x4_1 (rd l0 x9_1)).bind fun t133 => (utf_Write.l0 k1 t133 l0 (l0.length : Int) (wrap64 (x9_1 + 1)))) = some (r1, r2) := by rw [if_pos rfl] at H; exact H
           clear H
           have H := H1
           clear H1
           replace H := Option.bind_eq_some_iff.mp H
           obtain ⟨t133, A70, H⟩ := H
           replace H : (utf_Write.l0 k1 t133 l0 (l0.length : Int) (wrap64 (x9_1 + 1))) = some (r1, r2) := H
           have A7 := Aside0.mk A70
           clear A70
           have H' := Aside0.mk H
           clear H
           have p131 : 0 ≤ (x9_1 : Int) := of_decide_eq_true (by first | (with_reducible assumption) | assumption)
           have q131 : x9_1 < (l0.length : Int) := of_decide_eq_true (by first | (with_reducible assumption) | assumption)
           obtain ⟨ad131, e131, hx131_0⟩ := Kd.at_int HR0.out x9_1 p131 q131
           cases e131
           replace hx131_0 := (HB.out.cell (World.block_lt_of_cell? w _ hx131_0)).trans hx131_0
           replace p131 := eq_true p131
           replace q131 := eq_true q131
           go_wp2_with (first | ((with_reducible refine gate_callee (f := 135) rfl ?_); refine goesL_ (some 14) rfl rfl Try.func135 (by kernel_rfl) rfl #[.int .i64 (rd l0 x9_1)] rfl (by (try simp only [List.map_toArray, List.map_cons, List.map_nil]); first | done | rfl | (simp only [List.length_drop, List.length_take]; rfl)) ?_; (with_reducible refine (utf_Valid.calls (rd l0 x9_1) true _ A5.out).mono ?_); rintro e w' ⟨rfl, ⟨nd, rfl⟩⟩; refine ⟨_, rfl, ?_⟩; obtain ⟨Ao8, co8, eo8⟩ := Kd.R_slice HO_4.out; subst eo8) | ((with_reducible refine gate_callee (f := 136) rfl ?_); refine goesL_ (some 18) rfl rfl Try.func136 (by kernel_rfl) rfl #[.slice Ao8 x4_1.length co8, .int .i64 (rd l0 x9_1)] rfl (by (try simp only [List.map_toArray, List.map_cons, List.map_nil]); first | done | rfl | (simp only [List.length_drop, List.length_take]; rfl)) ?_; (with_reducible refine (utf_Put.calls (fun k_ => some k_ = (.slice Ao8 x4_1.length co8 : Value).ownBlock) (.slice Ao8 x4_1.length co8) x4_1 (rd l0 x9_1) t133 w _ ?side1 ?side2 A7.out).mono ?_); (case side1 => repeat (first | (with_reducible first | exact HB.out | apply below_alloc | apply pw_below_drewN | apply below_drew1) | exact HB.out)); (case side2 => exact Kd.R_tight rfl HO_4.out); rintro e w9 ⟨v134, rfl, ho0, hb, hkp⟩; refine ⟨_, rfl, ?_⟩; have n0_ := Aside0.mk (Kd.R_mono (ok' := fun k_ => True) ho0 (fun k_ hk_ => trivial)); have n1_ := Aside0.mk (hb); clear HB; clear HO_4; have HO135 := n0_; have HB := n1_; clear n0_ n1_; (try clear hb); (try clear hkp); (try clear ho0)))
           go_roundg k1
           case measure => have := HK1.out; omega
           case rel => exact ⟨(t133), (wrap64 (x9_1 + 1)), (by first | rfl | (simp; done) | (simp [*]; done)), H', ⟨by have := HK1.out; omega⟩, ⟨by (with_reducible repeat (first | apply Kd.R_alloc | apply Kd.R_drewN | apply Kd.R_drew)); exact HO135.out⟩, ⟨by repeat (first | (with_reducible first | exact HB.out | apply below_alloc | apply pw_below_drewN | apply below_drew1) | exact HB.out)⟩⟩
         · replace c6 := Bool.eq_false_iff.mpr c6
           subst c6
           have H1 : (some ((⟨#[]⟩ : ByteArray), false)) = some (r1, r2) := by rw [if_neg (show ¬ (false = true) by decide)] at H; exact H
           clear H
           have H := H1
           clear H1
           simp only [Option.some.injEq, Prod.mk.injEq] at H
           obtain ⟨rfl, rfl⟩ := H
           have p131 : 0 ≤ (x9_1 : Int) := of_decide_eq_true (by first | (with_reducible assumption) | assumption)
           have q131 : x9_1 < (l0.length : Int) := of_decide_eq_true (by first | (with_reducible assumption) | assumption)
           obtain ⟨ad131, e131, hx131_0⟩ := Kd.at_int HR0.out x9_1 p131 q131
           cases e131
           replace hx131_0 := (HB.out.cell (World.block_lt_of_cell? w _ hx131_0)).trans hx131_0
           replace p131 := eq_true p131
           replace q131 := eq_true q131
           go_wp2_with (first | ((with_reducible refine gate_callee (f := 135) rfl ?_); refine goesL_ (some 14) rfl rfl Try.func135 (by kernel_rfl) rfl #[.int .i64 (rd l0 x9_1)] rfl (by (try simp only [List.map_toArray, List.map_cons, List.map_nil]); first | done | rfl | (simp only [List.length_drop, List.length_take]; rfl)) ?_; (with_reducible refine (utf_Valid.calls (rd l0 x9_1) false _ A5.out).mono ?_); rintro e w' ⟨rfl, ⟨nd, rfl⟩⟩; refine ⟨_, rfl, ?_⟩))
           go_ret2
           exact ⟨by first | rfl | (simp [errW_none, errW_some] <;> rfl) | (simp [*, errW_none, errW_some] <;> rfl), by repeat (first | (with_reducible first | exact HB.out | apply below_alloc | apply pw_below_drewN | apply below_drew1) | exact HB.out)⟩
       · rw [if_neg c4] at H
         exact absurd H (by simp)
     · rw [if_neg c3] at H
       exact absurd H (by simp)
   · rw [if_neg c2] at H
     have c2b0 : decide (x9_1 < (l0.length : Int)) = false := decide_eq_false c2
     clear c2
     simp only [Option.some.injEq, Prod.mk.injEq] at H
     obtain ⟨rfl, rfl⟩ := H
     have hcv10 := own_string (P := Try.prog) Try.underlying28 Try.underlying5 Try.underlying9 (Kd.own_of_R HO_4.out)
     go_wp2
     go_ret2
     exact ⟨by first | rfl | (simp [errW_none, errW_some] <;> rfl) | (simp [*, errW_none, errW_some] <;> rfl), by repeat (first | (with_reducible first | exact HB.out | apply below_alloc | apply pw_below_drewN | apply below_drew1) | exact HB.out)⟩

/-! ### hangul_Split: function 160 -/
def hangul_Split.j0 : Nat → Int → Bool → Option (List Int)
 | 0, _, _ => none
 | k + 1, x0, x10 => if x10 = true then (some ([] : List Int)) else ((some (([wrap64 (4352 + (wrap64 (Int.tdiv (wrap64 (x0 - 44032)) 588))), wrap64 (4449 + (Int.tmod (wrap64 (Int.tdiv (wrap64 (x0 - 44032)) 28)) 21))] : List Int) : List Int)).bind fun y136 => (if (Int.tmod (wrap64 (x0 - 44032)) 28) > 0 then (if y136.length < 17592186044416 then (some (y136 ++ [wrap64 (4519 + (Int.tmod (wrap64 (x0 - 44032)) 28))])) else (none)) else (some y136)))
def hangul_Split.f (k : Nat) (a0 : Int) : Option (List Int) := if a0 < 44032 then (hangul_Split.j0 k a0 true) else (hangul_Split.j0 k a0 (decide (a0 ≥ 55204)))
theorem hangul_Split.mono_l : ∀ k, (∀ y0 y1, LeO (hangul_Split.j0 k y0 y1) (hangul_Split.j0 (k + 1) y0 y1))
 | 0 => fun _ _ r h => by simp [hangul_Split.j0] at h
 | k + 1 => by
  have ih0 := hangul_Split.mono_l k
  · intro y0 y1
    unfold hangul_Split.j0
    repeat' first
    | (with_reducible exact ih0 _ _)
    | (with_reducible exact LeO.refl _)
    | (with_reducible exact LeO.none _)
    | (with_reducible refine LeO.ite ?_ ?_)
    | (with_reducible refine LeO.bind ?_ (fun _ => ?_))
    | exact ih0 _ _
    | exact LeO.none _
    | refine LeO.ite ?_ ?_
    | refine LeO.bind ?_ (fun _ => ?_)
theorem hangul_Split.mono : ∀ a0 k, LeO (hangul_Split.f k a0) (hangul_Split.f (k + 1) a0) := by
 intro a0 k
 have ih0 := hangul_Split.mono_l k
 unfold hangul_Split.f
 repeat' first
  | (with_reducible exact ih0 _ _)
  | (with_reducible exact LeO.refl _)
  | (with_reducible exact LeO.none _)
  | (with_reducible refine LeO.ite ?_ ?_)
  | (with_reducible refine LeO.bind ?_ (fun _ => ?_))
  | exact ih0 _ _
  | exact LeO.none _
  | refine LeO.ite ?_ ?_
  | refine LeO.bind ?_ (fun _ => ?_)
set_option maxHeartbeats 8000000 in
set_option maxRecDepth 100000 in
theorem hangul_Split.calls (k : Nat) (a0 : Int) (r : List Int) (w : World) (h : hangul_Split.f k a0 = some r) :
 Calls Try.prog 160 #[.int .i64 a0] w fun e w' => ∃ v0_ : Value, e = .returned (v0_) ∧ Kd.R (Kd.int .i64) 3 w' w.heap.size (fun _ => True) v0_ r ∧ Below w.heap.size w w' := by
 have HB := Aside0.mk (Below.refl w.heap.size w)
 have H : (if a0 < 44032 then (hangul_Split.j0 k a0 true) else (hangul_Split.j0 k a0 (decide (a0 ≥ 55204)))) = some r := h
 clear h
 have HC2 := Aside0.mk H
 clear H
 go_enter Try.func160, Try.ntmps160
 go_upto_region 1 with (fail)
 go_cut [10] (fun v10 wc => ∃ (kq : Nat) (x10_1 : Bool), v10 = .bool x10_1 ∧ Aside0 (hangul_Split.j0 kq a0 x10_1 = some r) ∧ Aside0 (kq ≤ k) ∧ Aside0 (Below w.heap.size w wc))
 case first =>
  have H := HC2.out
  clear HC2
  by_cases c3 : a0 < 44032
  · rw [if_pos c3] at H
    have c3b0 : decide (a0 < 44032) = true := decide_eq_true c3
    clear c3
    (first | rw [c3b0] | (simp only [i64_w, i32_w]; rw [c3b0]) | skip)
    have H' := Aside0.mk H
    clear H
    go_wp2
    go_meet
    case rel => exact ⟨_, (true), (by first | rfl | (simp; done) | (simp [*]; done)), H', ⟨by first | omega | exact Nat.le_refl _⟩, ⟨by repeat (first | (with_reducible first | exact HB.out | apply below_alloc | apply pw_below_drewN | apply below_drew1) | exact HB.out)⟩⟩
  · rw [if_neg c3] at H
    have c3b0 : decide (a0 < 44032) = false := decide_eq_false c3
    clear c3
    (first | rw [c3b0] | (simp only [i64_w, i32_w]; rw [c3b0]) | skip)
    have H' := Aside0.mk H
    clear H
    go_wp2
    go_meet
    case rel => exact ⟨_, (decide (a0 ≥ 55204)), (by first | rfl | (simp; done) | (simp [*]; done)), H', ⟨by first | omega | exact Nat.le_refl _⟩, ⟨by repeat (first | (with_reducible first | exact HB.out | apply below_alloc | apply pw_below_drewN | apply below_drew1) | exact HB.out)⟩⟩
 case rest =>
  clear HC2
  (try clear c1); (try clear p2); (try clear c3); (try clear c3b0)
  obtain ⟨kq, x10_1, rfl, HA, HJ1, HB⟩ := hcut
  cases kq with
  | zero => exact absurd HA.out (by simp [hangul_Split.j0])
  | succ kj1 =>
   have H := HA.out
   clear HA
   simp only [hangul_Split.j0] at H
   by_cases c4 : x10_1 = true
   · subst c4
     have H1 : (some ([] : List Int)) = some r := by rw [if_pos rfl] at H; exact H
     clear H
     have H := H1
     clear H1
     obtain rfl := Option.some.inj H
     go_wp2
     go_ret
     exact ⟨_, by first | rfl | (simp [errW_none, errW_some] <;> rfl) | (simp [*, errW_none, errW_some] <;> rfl), by first | exact Kd.R_nil _ _ _ _ _ | exact Kd.N_nil _ _ _ _ _ | exact Kd.V_nil _ _ _ _ _ | exact Kd.Q_nil _ _ _ _ _ | exact Kd.S_nil _ _ _ _ _, by repeat (first | (with_reducible first | exact HB.out | apply below_alloc | apply pw_below_drewN | apply below_drew1) | exact HB.out)⟩
   · replace c4 := Bool.eq_false_iff.mpr c4
     subst c4
     have H1 : ((some (([wrap64 (4352 + (wrap64 (Int.tdiv (wrap64 (a0 - 44032)) 588))), wrap64 (4449 + (Int.tmod (wrap64 (Int.tdiv (wrap64 (a0 - 44032)) 28)) 21))] : List Int) : List Int)).bind fun y136 => (if (Int.tmod (wrap64 (a0 - 44032)) 28) > 0 then (if y136.length < 17592186044416 then (some (y136 ++ [wrap64 (4519 + (Int.tmod (wrap64 (a0 - 44032)) 28))])) else (none)) else (some y136))) = some r := by rw [if_neg (show ¬ (false = true) by decide)] at H; exact H
     clear H
     have H := H1
     clear H1
     obtain ⟨y136, hy136⟩ : ∃ y_ : List Int, y_ = (([wrap64 (4352 + (wrap64 (Int.tdiv (wrap64 (a0 - 44032)) 588))), wrap64 (4449 + (Int.tmod (wrap64 (Int.tdiv (wrap64 (a0 - 44032)) 28)) 21))] : List Int)) := ⟨_, rfl⟩
     replace H : (if (Int.tmod (wrap64 (a0 - 44032)) 28) > 0 then (if y136.length < 17592186044416 then (some (y136 ++ [wrap64 (4519 + (Int.tmod (wrap64 (a0 - 44032)) 28))])) else (none)) else (some y136)) = some r := by first | (rw [hy136]; with_reducible exact H) | (have H2_ := (Option.bind_some _ _).symm.trans H; rw [hy136]; with_reducible exact H2_) | (have H2_ := (Option.bind_some _ _).symm.trans H; with_reducible exact H2_) | with_reducible exact H | (rw [hy136]; exact H) | exact H
     have Ny136 := Aside0.mk hy136
     clear hy136
     by_cases c5 : (Int.tmod (wrap64 (a0 - 44032)) 28) > 0
     · rw [if_pos c5] at H
       have c5b0 : decide (0 < (Int.tmod (wrap64 (a0 - 44032)) 28)) = true := decide_eq_true c5
       clear c5
       by_cases c6 : y136.length < 17592186044416
       · rw [if_pos c6] at H
         have LMc6 := Aside0.mk c6
         clear c6
         obtain ⟨y139, hy139⟩ : ∃ y_ : List Int, y_ = (y136 ++ [wrap64 (4519 + (Int.tmod (wrap64 (a0 - 44032)) 28))]) := ⟨_, rfl⟩
         replace H : (some y139) = some r := by first | (rw [hy139]; with_reducible exact H) | (have H2_ := (Option.bind_some _ _).symm.trans H; rw [hy139]; with_reducible exact H2_) | (have H2_ := (Option.bind_some _ _).symm.trans H; with_reducible exact H2_) | with_reducible exact H | (rw [hy139]; exact H) | exact H
         have Ny139 := Aside0.mk hy139
         clear hy139
         obtain rfl := Option.some.inj H
         go_wp2_with (first | ((with_reducible refine gate_dst (N := 20) rfl ?_); refine Kd.R_lit (Kd.int .i64) _ 3 ?hg (N := 20) ?hd (xs := ([wrap64 (4352 + (wrap64 (Int.tdiv (wrap64 (a0 - 44032)) 588))), wrap64 (4449 + (Int.tmod (wrap64 (Int.tdiv (wrap64 (a0 - 44032)) 28)) 21))] : List Int)) (inner := [.int .i64 (wrap64 (4352 + (wrap64 (Int.tdiv (wrap64 (a0 - 44032)) 588)))), .int .i64 (wrap64 (4449 + (Int.tmod (wrap64 (Int.tdiv (wrap64 (a0 - 44032)) 28)) 21)))]) (ok := fun _ => True) (okp := fun _ => True) ?hr ?hp (fun _ hk => hk) trivial (Below.refl _ _) (Nat.le_refl _) (by simp) ?_; (case hd => rfl); (case hg => rfl); (case hr => first | (go_simp; done) | (go_simp; rfl)); (case hp => exact (Reps.one (show Kd.M (Kd.int .i64) _ _ _ (wrap64 (4352 + (wrap64 (Int.tdiv (wrap64 (a0 - 44032)) 588)))) [.int .i64 (wrap64 (4352 + (wrap64 (Int.tdiv (wrap64 (a0 - 44032)) 588))))] from rfl) (Reps.one (show Kd.M (Kd.int .i64) _ _ _ (wrap64 (4449 + (Int.tmod (wrap64 (Int.tdiv (wrap64 (a0 - 44032)) 28)) 21))) [.int .i64 (wrap64 (4449 + (Int.tmod (wrap64 (Int.tdiv (wrap64 (a0 - 44032)) 28)) 21)))] from rfl) (Reps.none _ _)))); intro v137 w7 ho8 hb hg_ hnew_; clear hg_ hnew_; (first | rw [← Ny136.out] at ho8 | (simp only [Int.reduceToNat] at ho8; rw [← Ny136.out] at ho8)); have n0_ := Aside0.mk (Kd.R_lower ho8 (below_size (by repeat (first | (with_reducible first | exact HB.out | apply below_alloc | apply pw_below_drewN | apply below_drew1) | exact HB.out)))); have n1_ := Aside0.mk (below_step (by repeat (first | (with_reducible first | exact HB.out | apply below_alloc | apply pw_below_drewN | apply below_drew1) | exact HB.out)) hb); clear HB; have HO138 := n0_; have HB := n1_; clear n0_ n1_; clear hb ho8) | ((with_reducible refine gate_builtin (b := .append) (xs := #[.tmp 24, .tmp 28]) rfl ?_); at_builtin; refine Kd.R_append (Kd.int .i64) (w0 := w) w.heap.size rfl (.tmp 24) (.tmp 28) 50 3 (.int .i64 0) 8 rfl Try.underlying50 info3 rfl (by decide) (by omega) v137 y136 (wrap64 (4519 + (Int.tmod (wrap64 (a0 - 44032)) 28))) [.int .i64 (wrap64 (4519 + (Int.tmod (wrap64 (a0 - 44032)) 28)))] (fun _ => True) (fun _ => False) rfl rfl ?aP (fun _ hk => hk.elim) ?aF ?aO ?aB ?aS ?aL ?_; (case aP => exact rfl); (case aB => exact (by repeat (first | (with_reducible first | exact HB.out | apply below_alloc | apply pw_below_drewN | apply below_drew1) | exact HB.out))); (case aF => exact (fun _ _ => trivial)); (case aO => exact (by (with_reducible repeat (first | apply Kd.R_alloc | apply Kd.R_drewN | apply Kd.R_drew)); exact HO138.out)); (case aS => exact (below_size (by repeat (first | (with_reducible first | exact HB.out | apply below_alloc | apply pw_below_drewN | apply below_drew1) | exact HB.out)))); (case aL => have := LMc6.out; omega); intro v140 w9 ho hb hg hat; rw [← Ny139.out] at ho; have n0_ := Aside0.mk (hb); have n1_ := Aside0.mk (ho); clear HB; clear HO138; have HB := n0_; have HO141 := n1_; clear n0_ n1_; clear ho hb hg hat))
         go_ret
         exact ⟨_, by first | rfl | (simp [errW_none, errW_some] <;> rfl) | (simp [*, errW_none, errW_some] <;> rfl), by (with_reducible repeat (first | apply Kd.R_alloc | apply Kd.R_drewN | apply Kd.R_drew)); exact HO141.out, by repeat (first | (with_reducible first | exact HB.out | apply below_alloc | apply pw_below_drewN | apply below_drew1) | exact HB.out)⟩
       · rw [if_neg c6] at H
         exact absurd H (by simp)
     · rw [if_neg c5] at H
       have c5b0 : decide (0 < (Int.tmod (wrap64 (a0 - 44032)) 28)) = false := decide_eq_false c5
       clear c5
       obtain rfl := Option.some.inj H
       go_wp2_with (first | ((with_reducible refine gate_dst (N := 20) rfl ?_); refine Kd.R_lit (Kd.int .i64) _ 3 ?hg (N := 20) ?hd (xs := ([wrap64 (4352 + (wrap64 (Int.tdiv (wrap64 (a0 - 44032)) 588))), wrap64 (4449 + (Int.tmod (wrap64 (Int.tdiv (wrap64 (a0 - 44032)) 28)) 21))] : List Int)) (inner := [.int .i64 (wrap64 (4352 + (wrap64 (Int.tdiv (wrap64 (a0 - 44032)) 588)))), .int .i64 (wrap64 (4449 + (Int.tmod (wrap64 (Int.tdiv (wrap64 (a0 - 44032)) 28)) 21)))]) (ok := fun _ => True) (okp := fun _ => True) ?hr ?hp (fun _ hk => hk) trivial (Below.refl _ _) (Nat.le_refl _) (by simp) ?_; (case hd => rfl); (case hg => rfl); (case hr => first | (go_simp; done) | (go_simp; rfl)); (case hp => exact (Reps.one (show Kd.M (Kd.int .i64) _ _ _ (wrap64 (4352 + (wrap64 (Int.tdiv (wrap64 (a0 - 44032)) 588)))) [.int .i64 (wrap64 (4352 + (wrap64 (Int.tdiv (wrap64 (a0 - 44032)) 588))))] from rfl) (Reps.one (show Kd.M (Kd.int .i64) _ _ _ (wrap64 (4449 + (Int.tmod (wrap64 (Int.tdiv (wrap64 (a0 - 44032)) 28)) 21))) [.int .i64 (wrap64 (4449 + (Int.tmod (wrap64 (Int.tdiv (wrap64 (a0 - 44032)) 28)) 21)))] from rfl) (Reps.none _ _)))); intro v137 w10 ho11 hb hg_ hnew_; clear hg_ hnew_; (first | rw [← Ny136.out] at ho11 | (simp only [Int.reduceToNat] at ho11; rw [← Ny136.out] at ho11)); have n0_ := Aside0.mk (Kd.R_lower ho11 (below_size (by repeat (first | (with_reducible first | exact HB.out | apply below_alloc | apply pw_below_drewN | apply below_drew1) | exact HB.out)))); have n1_ := Aside0.mk (below_step (by repeat (first | (with_reducible first | exact HB.out | apply below_alloc | apply pw_below_drewN | apply below_drew1) | exact HB.out)) hb); clear HB; have HO138 := n0_; have HB := n1_; clear n0_ n1_; clear hb ho11))
       go_ret
       exact ⟨_, by first | rfl | (simp [errW_none, errW_some] <;> rfl) | (simp [*, errW_none, errW_some] <;> rfl), by (with_reducible repeat (first | apply Kd.R_alloc | apply Kd.R_drewN | apply Kd.R_drew)); exact HO138.out, by repeat (first | (with_reducible first | exact HB.out | apply below_alloc | apply pw_below_drewN | apply below_drew1) | exact HB.out)⟩

/-! ### ucd_line: function 171 -/
def ucd_line.l0 : Nat → ByteArray → Int → Option (Int)
 | 0, _, _ => none
 | k + 1, x0, x1 => if x1 < (x0.size : Int) then (if 0 ≤ x1 then (if (bt x0 x1) = 10 then (some (wrap64 (x1 + 1))) else (ucd_line.l0 k x0 (wrap64 (x1 + 1)))) else (none)) else (some (wrap64 (x1 + 1)))
def ucd_line.f (k : Nat) (a0 : ByteArray) (a1 : Int) : Option (Int) := ucd_line.l0 k a0 a1
theorem ucd_line.mono_l : ∀ k, (∀ y0 y1, LeO (ucd_line.l0 k y0 y1) (ucd_line.l0 (k + 1) y0 y1))
 | 0 => fun _ _ r h => by simp [ucd_line.l0] at h
 | k + 1 => by
  have ih0 := ucd_line.mono_l k
  · intro y0 y1
    unfold ucd_line.l0
    repeat' first
    | (with_reducible exact ih0 _ _)
    | (with_reducible exact LeO.refl _)
    | (with_reducible exact LeO.none _)
    | (with_reducible refine LeO.ite ?_ ?_)
    | (with_reducible refine LeO.bind ?_ (fun _ => ?_))
    | exact ih0 _ _
    | exact LeO.none _
    | refine LeO.ite ?_ ?_
    | refine LeO.bind ?_ (fun _ => ?_)
theorem ucd_line.mono : ∀ a0 a1 k, LeO (ucd_line.f k a0 a1) (ucd_line.f (k + 1) a0 a1) := by
 intro a0 a1 k
 have ih0 := ucd_line.mono_l k
 unfold ucd_line.f
 repeat' first
  | (with_reducible exact ih0 _ _)
  | (with_reducible exact LeO.refl _)
  | (with_reducible exact LeO.none _)
  | (with_reducible refine LeO.ite ?_ ?_)
  | (with_reducible refine LeO.bind ?_ (fun _ => ?_))
  | exact ih0 _ _
  | exact LeO.none _
  | refine LeO.ite ?_ ?_
  | refine LeO.bind ?_ (fun _ => ?_)
set_option maxHeartbeats 8000000 in
set_option maxRecDepth 100000 in
theorem ucd_line.calls (k : Nat) (a0 : ByteArray) (a1 : Int) (r : Int) (w : World) (h : ucd_line.f k a0 a1 = some r) :
 Calls Try.prog 171 #[.string a0, .int .i64 a1] w fun e w' => e = .returned (.int .i64 r) ∧ Drawn0 w w' := by
 have H : (ucd_line.l0 k a0 a1) = some r := h
 clear h
 have H' := Aside0.mk H
 clear H
 go_enter Try.func171, Try.ntmps171
 go_wp2
 try simp only [Act.put, List.setIfInBounds_toArray, List.set_cons_succ, List.set_cons_zero]
 go_loopg [1] k (fun kq v1 w' => ∃ (x1_1 : Int), v1 = .int .i64 x1_1 ∧ Aside0 (ucd_line.l0 kq a0 x1_1 = some r) ∧ Aside0 (kq ≤ k) ∧ Drawn0 w w')
 case atStart => exact ⟨(a1), (by first | rfl | (simp; done) | (simp [*]; done)), H', ⟨Nat.le_refl _⟩, by repeat (first | exact Drawn0.refl _ | apply Drawn0.step)⟩
 case round =>
  clear H'
  (try clear c1); (try clear p2)
  obtain ⟨x1_1, rfl, HA, HK1, ⟨m1, rfl⟩⟩ := hrel
  cases gk with
  | zero => exact absurd HA.out (by simp [ucd_line.l0])
  | succ k1 =>
   have H := HA.out
   clear HA
   simp only [ucd_line.l0] at H
   by_cases c3 : x1_1 < (a0.size : Int)
   · rw [if_pos c3] at H
     have c3b0 : decide (x1_1 < (a0.size : Int)) = true := decide_eq_true c3
     clear c3
     by_cases c4 : 0 ≤ x1_1
     · rw [if_pos c4] at H
       have c4b0 : decide (0 ≤ x1_1) = true := decide_eq_true c4
       clear c4
       by_cases c6 : (bt a0 x1_1) = 10
       · rw [if_pos c6] at H
         have c6b0 : ((bt a0 x1_1) == 10) = true := beq_iff_eq.mpr c6
         have c6b1 : ((bt a0 x1_1) != 10) = false := bne_eq_false_iff_eq.mpr c6
         clear c6
         obtain rfl := Option.some.inj H
         have p5 : 0 ≤ (x1_1 : Int) := of_decide_eq_true (by first | (with_reducible assumption) | assumption)
         have q5 : x1_1 < (a0.size : Int) := of_decide_eq_true (by first | (with_reducible assumption) | assumption)
         have hx5 := bt_at a0 x1_1
         replace p5 := eq_true p5
         replace q5 := eq_true q5
         go_wp2
         go_ret
         exact ⟨by first | rfl | (simp; done) | (simp [*]; done), by repeat (first | exact Drawn0.refl _ | apply Drawn0.step)⟩
       · rw [if_neg c6] at H
         have c6b0 : ((bt a0 x1_1) == 10) = false := beq_eq_false_iff_ne.mpr c6
         have c6b1 : ((bt a0 x1_1) != 10) = true := bne_iff_ne.mpr c6
         have H' := Aside0.mk H
         clear H
         have p5 : 0 ≤ (x1_1 : Int) := of_decide_eq_true (by first | (with_reducible assumption) | assumption)
         have q5 : x1_1 < (a0.size : Int) := of_decide_eq_true (by first | (with_reducible assumption) | assumption)
         have hx5 := bt_at a0 x1_1
         replace p5 := eq_true p5
         replace q5 := eq_true q5
         go_wp2
         go_roundg k1
         case measure => have := HK1.out; omega
         case rel => exact ⟨(wrap64 (x1_1 + 1)), (by first | rfl | (simp; done) | (simp [*]; done)), H', ⟨by have := HK1.out; omega⟩, by repeat (first | exact Drawn0.refl _ | apply Drawn0.step)⟩
     · rw [if_neg c4] at H
       exact absurd H (by simp)
   · rw [if_neg c3] at H
     have c3b0 : decide (x1_1 < (a0.size : Int)) = false := decide_eq_false c3
     clear c3
     obtain rfl := Option.some.inj H
     go_wp2
     go_ret
     exact ⟨by first | rfl | (simp; done) | (simp [*]; done), by repeat (first | exact Drawn0.refl _ | apply Drawn0.step)⟩

/-! ### ucd_hex: function 172 -/
mutual
def ucd_hex.l0 : Nat → ByteArray → Int → Int → Option (Int × Int)
 | 0, _, _, _ => none
 | k + 1, x0, x1, x6 => if x1 < (x0.size : Int) then (if 0 ≤ x1 then (if (wrap64 (bt x0 x1)) ≥ 48 then (ucd_hex.j1 k x0 x1 x6 (wrap64 (bt x0 x1)) (decide ((wrap64 (bt x0 x1)) ≤ 57))) else (ucd_hex.j1 k x0 x1 x6 (wrap64 (bt x0 x1)) false)) else (none)) else (some (x6, x1))
def ucd_hex.j1 : Nat → ByteArray → Int → Int → Int → Bool → Option (Int × Int)
 | 0, _, _, _, _, _ => none
 | k + 1, x0, x1, x6, x7, x18 => if x18 = true then (ucd_hex.l0 k x0 (wrap64 (x1 + 1)) (Go.bits .or .i64 (wrap64 (x6 * 16)) (wrap64 (x7 - 48)))) else (if x7 ≥ 65 then (if x7 ≤ 70 then (ucd_hex.l0 k x0 (wrap64 (x1 + 1)) (Go.bits .or .i64 (wrap64 (x6 * 16)) (wrap64 ((wrap64 (x7 - 65)) + 10)))) else (some (x6, x1))) else (some (x6, x1)))
end
def ucd_hex.f (k : Nat) (a0 : ByteArray) (a1 : Int) : Option (Int × Int) := ucd_hex.l0 k a0 a1 0
theorem ucd_hex.mono_l : ∀ k, (∀ y0 y1 y2, LeO (ucd_hex.l0 k y0 y1 y2) (ucd_hex.l0 (k + 1) y0 y1 y2)) ∧ (∀ y0 y1 y2 y3 y4, LeO (ucd_hex.j1 k y0 y1 y2 y3 y4) (ucd_hex.j1 (k + 1) y0 y1 y2 y3 y4))
 | 0 => ⟨fun _ _ _ r h => by simp [ucd_hex.l0] at h, fun _ _ _ _ _ r h => by simp [ucd_hex.j1] at h⟩
 | k + 1 => by
  obtain ⟨ih0, ih1⟩ := ucd_hex.mono_l k
  refine ⟨?_, ?_⟩
  · intro y0 y1 y2
    unfold ucd_hex.l0
    repeat' first
    | (with_reducible exact ih0 _ _ _)
    | (with_reducible exact ih1 _ _ _ _ _)
    | (with_reducible exact LeO.refl _)
    | (with_reducible exact LeO.none _)
    | (with_reducible refine LeO.ite ?_ ?_)
    | (with_reducible refine LeO.bind ?_ (fun _ => ?_))
    | exact ih0 _ _ _
    | exact ih1 _ _ _ _ _
    | exact LeO.none _
    | refine LeO.ite ?_ ?_
    | refine LeO.bind ?_ (fun _ => ?_)
  · intro y0 y1 y2 y3 y4
    unfold ucd_hex.j1
    repeat' first
    | (with_reducible exact ih0 _ _ _)
    | (with_reducible exact ih1 _ _ _ _ _)
    | (with_reducible exact LeO.refl _)
    | (with_reducible exact LeO.none _)
    | (with_reducible refine LeO.ite ?_ ?_)
    | (with_reducible refine LeO.bind ?_ (fun _ => ?_))
    | exact ih0 _ _ _
    | exact ih1 _ _ _ _ _
    | exact LeO.none _
    | refine LeO.ite ?_ ?_
    | refine LeO.bind ?_ (fun _ => ?_)
theorem ucd_hex.mono : ∀ a0 a1 k, LeO (ucd_hex.f k a0 a1) (ucd_hex.f (k + 1) a0 a1) := by
 intro a0 a1 k
 obtain ⟨ih0, ih1⟩ := ucd_hex.mono_l k
 unfold ucd_hex.f
 repeat' first
  | (with_reducible exact ih0 _ _ _)
  | (with_reducible exact ih1 _ _ _ _ _)
  | (with_reducible exact LeO.refl _)
  | (with_reducible exact LeO.none _)
  | (with_reducible refine LeO.ite ?_ ?_)
  | (with_reducible refine LeO.bind ?_ (fun _ => ?_))
  | exact ih0 _ _ _
  | exact ih1 _ _ _ _ _
  | exact LeO.none _
  | refine LeO.ite ?_ ?_
  | refine LeO.bind ?_ (fun _ => ?_)
set_option maxHeartbeats 8000000 in
set_option maxRecDepth 100000 in
theorem ucd_hex.calls (k : Nat) (a0 : ByteArray) (a1 : Int) (r1 : Int) (r2 : Int) (w : World) (h : ucd_hex.f k a0 a1 = some (r1, r2)) :
 Calls Try.prog 172 #[.string a0, .int .i64 a1] w fun e w' => e = .returned (.tuple #[.int .i64 r1, .int .i64 r2]) ∧ Drawn0 w w' := by
 have H : (ucd_hex.l0 k a0 a1 0) = some (r1, r2) := h
 clear h
 have H' := Aside0.mk H
 clear H
 go_enter Try.func172, Try.ntmps172
 go_wp2
 try simp only [Act.put, List.setIfInBounds_toArray, List.set_cons_succ, List.set_cons_zero]
 go_loopg [1, 6] k (fun kq v1 v6 w' => ∃ (x1_1 : Int) (x6_1 : Int), v1 = .int .i64 x1_1 ∧ v6 = .int .i64 x6_1 ∧ Aside0 (ucd_hex.l0 kq a0 x1_1 x6_1 = some (r1, r2)) ∧ Aside0 (kq ≤ k) ∧ Drawn0 w w')
 case atStart => exact ⟨(a1), (0), (by first | rfl | (simp; done) | (simp [*]; done)), (by first | rfl | (simp; done) | (simp [*]; done)), H', ⟨Nat.le_refl _⟩, by repeat (first | exact Drawn0.refl _ | apply Drawn0.step)⟩
 case round =>
  clear H'
  (try clear c1); (try clear p2)
  obtain ⟨x1_1, x6_1, rfl, rfl, HA, HK1, ⟨m1, rfl⟩⟩ := hrel
  cases gk with
  | zero => exact absurd HA.out (by simp [ucd_hex.l0])
  | succ k1 =>
   have H := HA.out
   clear HA
   simp only [ucd_hex.l0] at H
   by_cases c3 : x1_1 < (a0.size : Int)
   · rw [if_pos c3] at H
     have c3b0 : decide (x1_1 < (a0.size : Int)) = true := decide_eq_true c3
     clear c3
     by_cases c4 : 0 ≤ x1_1
     · rw [if_pos c4] at H
       have c4b0 : decide (0 ≤ x1_1) = true := decide_eq_true c4
       clear c4
       have HC6 := Aside0.mk H
       clear H
       have p5 : 0 ≤ (x1_1 : Int) := of_decide_eq_true (by first | (with_reducible assumption) | assumption)
       have q5 : x1_1 < (a0.size : Int) := of_decide_eq_true (by first | (with_reducible assumption) | assumption)
       have hx5 := bt_at a0 x1_1
       replace p5 := eq_true p5
       replace q5 := eq_true q5
       go_upto_region 5 with (fail)
       go_cut [18] (fun v18 wc => ∃ (kq : Nat) (x18_5 : Bool), v18 = .bool x18_5 ∧ Aside0 (ucd_hex.j1 kq a0 x1_1 x6_1 (wrap64 (bt a0 x1_1)) x18_5 = some (r1, r2)) ∧ Aside0 (kq ≤ k1) ∧ Drawn0 w wc)
       case first =>
        have H := HC6.out
        clear HC6
        by_cases c7 : (wrap64 (bt a0 x1_1)) ≥ 48
        · rw [if_pos c7] at H
          have c7b0 : decide (48 ≤ (wrap64 (bt a0 x1_1))) = true := decide_eq_true c7
          clear c7
          (first | rw [c7b0] | (simp only [i64_w, i32_w]; rw [c7b0]) | skip)
          have H' := Aside0.mk H
          clear H
          go_wp2
          go_meet
          case rel => exact ⟨_, (decide ((wrap64 (bt a0 x1_1)) ≤ 57)), (by first | rfl | (simp; done) | (simp [*]; done)), H', ⟨by have := HK1.out; first | omega | exact Nat.le_refl _⟩, by repeat (first | exact Drawn0.refl _ | apply Drawn0.step)⟩
        · rw [if_neg c7] at H
          have c7b0 : decide (48 ≤ (wrap64 (bt a0 x1_1))) = false := decide_eq_false c7
          clear c7
          (first | rw [c7b0] | (simp only [i64_w, i32_w]; rw [c7b0]) | skip)
          have H' := Aside0.mk H
          clear H
          go_wp2
          go_meet
          case rel => exact ⟨_, (false), (by first | rfl | (simp; done) | (simp [*]; done)), H', ⟨by have := HK1.out; first | omega | exact Nat.le_refl _⟩, by repeat (first | exact Drawn0.refl _ | apply Drawn0.step)⟩
       case rest =>
        clear HC6
        (try clear c1); (try clear p2); (try clear c3); (try clear c3b0); (try clear c4); (try clear c4b0); (try clear p5); (try clear q5); (try clear hx5); (try clear p6); (try clear c7); (try clear c7b0); (try clear p2); (try clear p5); (try clear q5)
        obtain ⟨kq, x18_5, rfl, HA, HJ5, ⟨mc5, rfl⟩⟩ := hcut
        cases kq with
        | zero => exact absurd HA.out (by simp [ucd_hex.j1])
        | succ kj5 =>
         have H := HA.out
         clear HA
         simp only [ucd_hex.j1] at H
         by_cases c8 : x18_5 = true
         · subst c8
           have H1 : (ucd_hex.l0 kj5 a0 (wrap64 (x1_1 + 1)) (Go.bits .or .i64 (wrap64 (x6_1 * 16)) (wrap64 ((wrap64 (bt a0 x1_1)) - 48)))) = some (r1, r2) := by rw [if_pos rfl] at H; exact H
           clear H
           have H := H1
           clear H1
           have H' := Aside0.mk H
           clear H
           go_wp2
           go_roundg kj5
           case measure => have := HK1.out; have := HJ5.out; omega
           case rel => exact ⟨(wrap64 (x1_1 + 1)), (Go.bits .or .i64 (wrap64 (x6_1 * 16)) (wrap64 ((wrap64 (bt a0 x1_1)) - 48))), (by first | rfl | (simp; done) | (simp [*]; done)), (by first | rfl | (simp; done) | (simp [*]; done)), H', ⟨by have := HK1.out; have := HJ5.out; omega⟩, by repeat (first | exact Drawn0.refl _ | apply Drawn0.step)⟩
         · replace c8 := Bool.eq_false_iff.mpr c8
           subst c8
           have H1 : (if (wrap64 (bt a0 x1_1)) ≥ 65 then (if (wrap64 (bt a0 x1_1)) ≤ 70 then (ucd_hex.l0 kj5 a0 (wrap64 (x1_1 + 1)) (Go.bits .or .i64 (wrap64 (x6_1 * 16)) (wrap64 ((wrap64 ((wrap64 (bt a0 x1_1)) - 65)) + 10)))) else (some (x6_1, x1_1))) else (some (x6_1, x1_1))) = some (r1, r2) := by rw [if_neg (show ¬ (false = true) by decide)] at H; exact H
           clear H
           have H := H1
           clear H1
           by_cases c9 : (wrap64 (bt a0 x1_1)) ≥ 65
           · rw [if_pos c9] at H
             have c9b0 : decide (65 ≤ (wrap64 (bt a0 x1_1))) = true := decide_eq_true c9
             clear c9
             by_cases c10 : (wrap64 (bt a0 x1_1)) ≤ 70
             · rw [if_pos c10] at H
               have c10b0 : decide ((wrap64 (bt a0 x1_1)) ≤ 70) = true := decide_eq_true c10
               clear c10
               have H' := Aside0.mk H
               clear H
               go_wp2
               go_roundg kj5
               case measure => have := HK1.out; have := HJ5.out; omega
               case rel => exact ⟨(wrap64 (x1_1 + 1)), (Go.bits .or .i64 (wrap64 (x6_1 * 16)) (wrap64 ((wrap64 ((wrap64 (bt a0 x1_1)) - 65)) + 10))), (by first | rfl | (simp; done) | (simp [*]; done)), (by first | rfl | (simp; done) | (simp [*]; done)), H', ⟨by have := HK1.out; have := HJ5.out; omega⟩, by repeat (first | exact Drawn0.refl _ | apply Drawn0.step)⟩
             · rw [if_neg c10] at H
               have c10b0 : decide ((wrap64 (bt a0 x1_1)) ≤ 70) = false := decide_eq_false c10
               clear c10
               simp only [Option.some.injEq, Prod.mk.injEq] at H
               obtain ⟨rfl, rfl⟩ := H
               go_wp2
               go_ret2
               exact ⟨by first | rfl | (simp; done) | (simp [*]; done), by repeat (first | exact Drawn0.refl _ | apply Drawn0.step)⟩
           · rw [if_neg c9] at H
             have c9b0 : decide (65 ≤ (wrap64 (bt a0 x1_1))) = false := decide_eq_false c9
             clear c9
             simp only [Option.some.injEq, Prod.mk.injEq] at H
             obtain ⟨rfl, rfl⟩ := H
             go_wp2
             go_ret2
             exact ⟨by first | rfl | (simp; done) | (simp [*]; done), by repeat (first | exact Drawn0.refl _ | apply Drawn0.step)⟩
     · rw [if_neg c4] at H
       exact absurd H (by simp)
   · rw [if_neg c3] at H
     have c3b0 : decide (x1_1 < (a0.size : Int)) = false := decide_eq_false c3
     clear c3
     simp only [Option.some.injEq, Prod.mk.injEq] at H
     obtain ⟨rfl, rfl⟩ := H
     go_wp2
     go_ret2
     exact ⟨by first | rfl | (simp; done) | (simp [*]; done), by repeat (first | exact Drawn0.refl _ | apply Drawn0.step)⟩

/-! ### ucd_Map: function 161 -/
mutual
def ucd_Map.l0 : Nat → Int → Int → Option (List Int)
 | 0, _, _ => none
 | k + 1, x0, x3 => if x3 < 1304 then ((ucd_hex.f k lit_31b68b x3).bind fun bt142 => (if bt142.1 < x0 then ((ucd_line.f k lit_31b68b x3).bind fun t144 => (ucd_Map.l0 k x0 t144)) else (ucd_Map.l1 k x0 bt142.1 bt142.2 ([] : List Int)))) else (some ([] : List Int))
def ucd_Map.l1 : Nat → Int → Int → Int → List Int → Option (List Int)
 | 0, _, _, _, _ => none
 | k + 1, x0, x4, x5, x6 => if x4 = x0 then (if x5 < 1304 then (if 0 ≤ x5 then (if x5 < (lit_31b68b.size : Int) then (if (bt lit_31b68b x5) = 32 then ((ucd_hex.f k lit_31b68b (wrap64 (x5 + 1))).bind fun bt145 => (if x6.length < 17592186044416 then (ucd_Map.l1 k x0 x4 bt145.2 (x6 ++ [bt145.1])) else (none))) else (some x6)) else (none)) else (none)) else (some x6)) else (some x6)
end
def ucd_Map.f (k : Nat) (a0 : Int) : Option (List Int) := if a0 < 192 then (some ([] : List Int)) else (ucd_Map.l0 k a0 0)
theorem ucd_Map.mono_l : ∀ k, (∀ y0 y1, LeO (ucd_Map.l0 k y0 y1) (ucd_Map.l0 (k + 1) y0 y1)) ∧ (∀ y0 y1 y2 y3, LeO (ucd_Map.l1 k y0 y1 y2 y3) (ucd_Map.l1 (k + 1) y0 y1 y2 y3))
 | 0 => ⟨fun _ _ r h => by simp [ucd_Map.l0] at h, fun _ _ _ _ r h => by simp [ucd_Map.l1] at h⟩
 | k + 1 => by
  obtain ⟨ih0, ih1⟩ := ucd_Map.mono_l k
  refine ⟨?_, ?_⟩
  · intro y0 y1
    unfold ucd_Map.l0
    repeat' first
    | (with_reducible exact ih0 _ _)
    | (with_reducible exact ih1 _ _ _ _)
    | (with_reducible exact ucd_hex.mono _ _ _)
    | (with_reducible exact ucd_line.mono _ _ _)
    | (with_reducible exact LeO.refl _)
    | (with_reducible exact LeO.none _)
    | (with_reducible refine LeO.ite ?_ ?_)
    | (with_reducible refine LeO.bind ?_ (fun _ => ?_))
    | exact ih0 _ _
    | exact ih1 _ _ _ _
    | exact ucd_hex.mono _ _ _
    | exact ucd_line.mono _ _ _
    | exact LeO.none _
    | refine LeO.ite ?_ ?_
    | refine LeO.bind ?_ (fun _ => ?_)
  · intro y0 y1 y2 y3
    unfold ucd_Map.l1
    repeat' first
    | (with_reducible exact ih0 _ _)
    | (with_reducible exact ih1 _ _ _ _)
    | (with_reducible exact ucd_hex.mono _ _ _)
    | (with_reducible exact ucd_line.mono _ _ _)
    | (with_reducible exact LeO.refl _)
    | (with_reducible exact LeO.none _)
    | (with_reducible refine LeO.ite ?_ ?_)
    | (with_reducible refine LeO.bind ?_ (fun _ => ?_))
    | exact ih0 _ _
    | exact ih1 _ _ _ _
    | exact ucd_hex.mono _ _ _
    | exact ucd_line.mono _ _ _
    | exact LeO.none _
    | refine LeO.ite ?_ ?_
    | refine LeO.bind ?_ (fun _ => ?_)
theorem ucd_Map.mono : ∀ a0 k, LeO (ucd_Map.f k a0) (ucd_Map.f (k + 1) a0) := by
 intro a0 k
 obtain ⟨ih0, ih1⟩ := ucd_Map.mono_l k
 unfold ucd_Map.f
 repeat' first
  | (with_reducible exact ih0 _ _)
  | (with_reducible exact ih1 _ _ _ _)
  | (with_reducible exact ucd_hex.mono _ _ _)
  | (with_reducible exact ucd_line.mono _ _ _)
  | (with_reducible exact LeO.refl _)
  | (with_reducible exact LeO.none _)
  | (with_reducible refine LeO.ite ?_ ?_)
  | (with_reducible refine LeO.bind ?_ (fun _ => ?_))
  | exact ih0 _ _
  | exact ih1 _ _ _ _
  | exact ucd_hex.mono _ _ _
  | exact ucd_line.mono _ _ _
  | exact LeO.none _
  | refine LeO.ite ?_ ?_
  | refine LeO.bind ?_ (fun _ => ?_)
set_option maxHeartbeats 8000000 in
set_option maxRecDepth 100000 in
theorem ucd_Map.calls (k : Nat) (a0 : Int) (r : List Int) (w : World) (h : ucd_Map.f k a0 = some r) :
 Calls Try.prog 161 #[.int .i64 a0] w fun e w' => ∃ v0_ : Value, e = .returned (v0_) ∧ Kd.R (Kd.int .i64) 3 w' w.heap.size (fun _ => True) v0_ r ∧ Below w.heap.size w w' := by
 have HB := Aside0.mk (Below.refl w.heap.size w)
 have H : (if a0 < 192 then (some ([] : List Int)) else (ucd_Map.l0 k a0 0)) = some r := h
 clear h
 by_cases c2 : a0 < 192
 · rw [if_pos c2] at H
   have c2b0 : decide (a0 < 192) = true := decide_eq_true c2
   clear c2
   obtain rfl := Option.some.inj H
   go_enter Try.func161, Try.ntmps161
   rw [← lit_31b68b_eq]
   go_wp2
   go_ret
   exact ⟨_, by first | rfl | (simp [errW_none, errW_some] <;> rfl) | (simp [*, errW_none, errW_some] <;> rfl), by first | exact Kd.R_nil _ _ _ _ _ | exact Kd.N_nil _ _ _ _ _ | exact Kd.V_nil _ _ _ _ _ | exact Kd.Q_nil _ _ _ _ _ | exact Kd.S_nil _ _ _ _ _, by repeat (first | (with_reducible first | exact HB.out | apply below_alloc | apply pw_below_drewN | apply below_drew1) | exact HB.out)⟩
 · rw [if_neg c2] at H
   have c2b0 : decide (a0 < 192) = false := decide_eq_false c2
   clear c2
   have H' := Aside0.mk H
   clear H
   go_enter Try.func161, Try.ntmps161
   rw [← lit_31b68b_eq]
   go_wp2
   try simp only [Act.put, List.setIfInBounds_toArray, List.set_cons_succ, List.set_cons_zero]
   go_loopg [3] k (fun kq v3 w' => ∃ (x3_1 : Int), v3 = .int .i64 x3_1 ∧ Aside0 (ucd_Map.l0 kq a0 x3_1 = some r) ∧ Aside0 (kq ≤ k) ∧ Aside0 (Below w.heap.size w w'))
   case atStart => exact ⟨(0), (by first | rfl | (simp; done) | (simp [*]; done)), H', ⟨Nat.le_refl _⟩, ⟨by repeat (first | (with_reducible first | exact HB.out | apply below_alloc | apply pw_below_drewN | apply below_drew1) | exact HB.out)⟩⟩
   case round =>
    clear H'
    (try clear c1); (try clear c2); (try clear c2b0); (try clear p2)
    obtain ⟨x3_1, rfl, HA, HK1, HB⟩ := hrel
    cases gk with
    | zero => exact absurd HA.out (by simp [ucd_Map.l0])
    | succ k1 =>
     have H := HA.out
     clear HA
     simp only [ucd_Map.l0] at H
     by_cases c3 : x3_1 < 1304
     · rw [if_pos c3] at H
       have c3b0 : decide (x3_1 < 1304) = true := decide_eq_true c3
       clear c3
       replace H := Option.bind_eq_some_iff.mp H
       obtain ⟨⟨t142, t143⟩, A40, H⟩ := H
       replace H : (if t142 < a0 then ((ucd_line.f k1 lit_31b68b x3_1).bind fun t144 => (ucd_Map.l0 k1 a0 t144)) else (ucd_Map.l1 k1 a0 t142 t143 ([] : List Int))) = some r := H
       have A4 := Aside0.mk A40
       clear A40
       by_cases c5 : t142 < a0
       · rw [if_pos c5] at H
         have c5b0 : decide (t142 < a0) = true := decide_eq_true c5
         clear c5
         replace H := Option.bind_eq_some_iff.mp H
         obtain ⟨t144, A60, H⟩ := H
         replace H : (ucd_Map.l0 k1 a0 t144) = some r := H
         have A6 := Aside0.mk A60
         clear A60
         have H' := Aside0.mk H
         clear H
         go_wp2_with (first | ((with_reducible refine gate_callee (f := 172) rfl ?_); refine goesL_ (some 16) rfl rfl Try.func172 (by kernel_rfl) rfl #[.string lit_31b68b, .int .i64 x3_1] rfl (by (try simp only [List.map_toArray, List.map_cons, List.map_nil]); first | done | rfl | (simp only [List.length_drop, List.length_take]; rfl)) ?_; (with_reducible refine (ucd_hex.calls k1 lit_31b68b x3_1 t142 t143 _ A4.out).mono ?_); rintro e w' ⟨rfl, ⟨nd, rfl⟩⟩; refine ⟨_, rfl, ?_⟩) | ((with_reducible refine gate_callee (f := 171) rfl ?_); refine goesL_ (some 13) rfl rfl Try.func171 (by kernel_rfl) rfl #[.string lit_31b68b, .int .i64 x3_1] rfl (by (try simp only [List.map_toArray, List.map_cons, List.map_nil]); first | done | rfl | (simp only [List.length_drop, List.length_take]; rfl)) ?_; (with_reducible refine (ucd_line.calls k1 lit_31b68b x3_1 t144 _ A6.out).mono ?_); rintro e w' ⟨rfl, ⟨nd, rfl⟩⟩; refine ⟨_, rfl, ?_⟩))
         go_roundg k1
         case measure => have := HK1.out; omega
         case rel => exact ⟨(t144), (by first | rfl | (simp; done) | (simp [*]; done)), H', ⟨by have := HK1.out; omega⟩, ⟨by repeat (first | (with_reducible first | exact HB.out | apply below_alloc | apply pw_below_drewN | apply below_drew1) | exact HB.out)⟩⟩
       · rw [if_neg c5] at H
         have c5b0 : decide (t142 < a0) = false := decide_eq_false c5
         clear c5
         have H' := Aside0.mk H
         clear H
         go_wp2_with (first | ((with_reducible refine gate_callee (f := 172) rfl ?_); refine goesL_ (some 16) rfl rfl Try.func172 (by kernel_rfl) rfl #[.string lit_31b68b, .int .i64 x3_1] rfl (by (try simp only [List.map_toArray, List.map_cons, List.map_nil]); first | done | rfl | (simp only [List.length_drop, List.length_take]; rfl)) ?_; (with_reducible refine (ucd_hex.calls k1 lit_31b68b x3_1 t142 t143 _ A4.out).mono ?_); rintro e w' ⟨rfl, ⟨nd, rfl⟩⟩; refine ⟨_, rfl, ?_⟩))
         try simp only [Act.put, List.setIfInBounds_toArray, List.set_cons_succ, List.set_cons_zero]
         go_loopg [5, 6] k1 (fun kq v5 v6 w' => ∃ (x5_2 : Int) (x6_2 : List Int), v5 = .int .i64 x5_2 ∧ Aside0 (ucd_Map.l1 kq a0 t142 x5_2 x6_2 = some r) ∧ Aside0 (kq ≤ k1) ∧ Aside0 (Kd.R (Kd.int .i64) 3 w' w.heap.size (fun _ => True) v6 x6_2) ∧ Aside0 (Below w.heap.size w w'))
         case atStart => exact ⟨(t143), (([] : List Int)), (by first | rfl | (simp; done) | (simp [*]; done)), H', ⟨Nat.le_refl _⟩, ⟨by first | exact Kd.R_nil _ _ _ _ _ | exact Kd.N_nil _ _ _ _ _ | exact Kd.V_nil _ _ _ _ _ | exact Kd.Q_nil _ _ _ _ _ | exact Kd.S_nil _ _ _ _ _⟩, ⟨by repeat (first | (with_reducible first | exact HB.out | apply below_alloc | apply pw_below_drewN | apply below_drew1) | exact HB.out)⟩⟩
         case round =>
          clear H'
          (try clear c1); (try clear c2); (try clear c2b0); (try clear p2); (try clear c3); (try clear c3b0); (try clear c5); (try clear c5b0); (try clear p2)
          obtain ⟨x5_2, x6_2, rfl, HA, HK2, HO_6, HB⟩ := hrel
          cases gk with
          | zero => exact absurd HA.out (by simp [ucd_Map.l1])
          | succ k2 =>
           have H := HA.out
           clear HA
           simp only [ucd_Map.l1] at H
           by_cases c7 : t142 = a0
           · rw [if_pos c7] at H
             have c7b0 : (t142 == a0) = true := beq_iff_eq.mpr c7
             have c7b1 : (t142 != a0) = false := bne_eq_false_iff_eq.mpr c7
             clear c7
             by_cases c8 : x5_2 < 1304
             · rw [if_pos c8] at H
               have c8b0 : decide (x5_2 < 1304) = true := decide_eq_true c8
               clear c8
               by_cases c9 : 0 ≤ x5_2
               · rw [if_pos c9] at H
                 have c9b0 : decide (0 ≤ x5_2) = true := decide_eq_true c9
                 clear c9
                 by_cases c10 : x5_2 < (lit_31b68b.size : Int)
                 · rw [if_pos c10] at H
                   have c10b0 : decide (x5_2 < (lit_31b68b.size : Int)) = true := decide_eq_true c10
                   clear c10
                   by_cases c12 : (bt lit_31b68b x5_2) = 32
                   · rw [if_pos c12] at H
                     have c12b0 : ((bt lit_31b68b x5_2) == 32) = true := beq_iff_eq.mpr c12
                     have c12b1 : ((bt lit_31b68b x5_2) != 32) = false := bne_eq_false_iff_eq.mpr c12
                     clear c12
                     replace H := Option.bind_eq_some_iff.mp H
                     obtain ⟨⟨t145, t146⟩, A130, H⟩ := H
                     replace H : (if x6_2.length < 17592186044416 then (ucd_Map.l1 k2 a0 t142 t146 (x6_2 ++ [t145])) else (none)) = some r := H
                     have A13 := Aside0.mk A130
                     clear A130
                     by_cases c14 : x6_2.length < 17592186044416
                     · rw [if_pos c14] at H
                       have LMc14 := Aside0.mk c14
                       clear c14
                       obtain ⟨y147, hy147⟩ : ∃ y_ : List Int, y_ = (x6_2 ++ [t145]) := ⟨_, rfl⟩
                       replace H : (ucd_Map.l1 k2 a0 t142 t146 y147) = some r := by first | (rw [hy147]; with_reducible exact H) | (have H2_ := (Option.bind_some _ _).symm.trans H; rw [hy147]; with_reducible exact H2_) | (have H2_ := (Option.bind_some _ _).symm.trans H; with_reducible exact H2_) | with_reducible exact H | (rw [hy147]; exact H) | exact H
                       have Ny147 := Aside0.mk hy147
                       clear hy147
                       have H' := Aside0.mk H
                       clear H
                       have p11 : 0 ≤ (x5_2 : Int) := of_decide_eq_true (by first | (with_reducible assumption) | assumption)
                       have q11 : x5_2 < (lit_31b68b.size : Int) := of_decide_eq_true (by first | (with_reducible assumption) | assumption)
                       have hx11 := bt_at lit_31b68b x5_2
                       replace p11 := eq_true p11
                       replace q11 := eq_true q11
                       go_wp2_with (first | ((with_reducible refine gate_callee (f := 172) rfl ?_); refine goesL_ (some 37) rfl rfl Try.func172 (by kernel_rfl) rfl #[.string lit_31b68b, .int .i64 (wrap64 (x5_2 + 1))] rfl (by (try simp only [List.map_toArray, List.map_cons, List.map_nil]); first | done | rfl | (simp only [List.length_drop, List.length_take]; rfl)) ?_; (with_reducible refine (ucd_hex.calls k2 lit_31b68b (wrap64 (x5_2 + 1)) t145 t146 _ A13.out).mono ?_); rintro e w' ⟨rfl, ⟨nd, rfl⟩⟩; refine ⟨_, rfl, ?_⟩) | ((with_reducible refine gate_builtin (b := .append) (xs := #[.tmp 40, .tmp 42]) rfl ?_); at_builtin; refine Kd.R_append (Kd.int .i64) (w0 := w) w.heap.size rfl (.tmp 40) (.tmp 42) 50 3 (.int .i64 0) 8 rfl Try.underlying50 info3 rfl (by decide) (by omega) u6 x6_2 t145 [.int .i64 t145] (fun _ => True) (fun _ => False) rfl rfl ?aP (fun _ hk => hk.elim) ?aF ?aO ?aB ?aS ?aL ?_; (case aP => exact rfl); (case aB => exact (by repeat (first | (with_reducible first | exact HB.out | apply below_alloc | apply pw_below_drewN | apply below_drew1) | exact HB.out))); (case aF => exact (fun _ _ => trivial)); (case aO => exact (by (with_reducible repeat (first | apply Kd.R_alloc | apply Kd.R_drewN | apply Kd.R_drew)); exact HO_6.out)); (case aS => exact (below_size (by repeat (first | (with_reducible first | exact HB.out | apply below_alloc | apply pw_below_drewN | apply below_drew1) | exact HB.out)))); (case aL => have := LMc14.out; omega); intro v148 w15 ho hb hg hat; rw [← Ny147.out] at ho; have n0_ := Aside0.mk (hb); have n1_ := Aside0.mk (ho); clear HB; clear HO_6; have HB := n0_; have HO149 := n1_; clear n0_ n1_; clear ho hb hg hat))
                       go_roundg k2
                       case measure => have := HK1.out; have := HK2.out; omega
                       case rel => exact ⟨(t146), (y147), (by first | rfl | (simp; done) | (simp [*]; done)), H', ⟨by have := HK1.out; have := HK2.out; omega⟩, ⟨by (with_reducible repeat (first | apply Kd.R_alloc | apply Kd.R_drewN | apply Kd.R_drew)); exact HO149.out⟩, ⟨by repeat (first | (with_reducible first | exact HB.out | apply below_alloc | apply pw_below_drewN | apply below_drew1) | exact HB.out)⟩⟩
                     · rw [if_neg c14] at H
                       exact absurd H (by simp)
                   · rw [if_neg c12] at H
                     have c12b0 : ((bt lit_31b68b x5_2) == 32) = false := beq_eq_false_iff_ne.mpr c12
                     have c12b1 : ((bt lit_31b68b x5_2) != 32) = true := bne_iff_ne.mpr c12
                     obtain rfl := Option.some.inj H
                     have p11 : 0 ≤ (x5_2 : Int) := of_decide_eq_true (by first | (with_reducible assumption) | assumption)
                     have q11 : x5_2 < (lit_31b68b.size : Int) := of_decide_eq_true (by first | (with_reducible assumption) | assumption)
                     have hx11 := bt_at lit_31b68b x5_2
                     replace p11 := eq_true p11
                     replace q11 := eq_true q11
                     go_wp2
                     go_ret
                     exact ⟨_, by first | rfl | (simp [errW_none, errW_some] <;> rfl) | (simp [*, errW_none, errW_some] <;> rfl), by (with_reducible repeat (first | apply Kd.R_alloc | apply Kd.R_drewN | apply Kd.R_drew)); exact HO_6.out, by repeat (first | (with_reducible first | exact HB.out | apply below_alloc | apply pw_below_drewN | apply below_drew1) | exact HB.out)⟩
                 · rw [if_neg c10] at H
                   exact absurd H (by simp)
               · rw [if_neg c9] at H
                 exact absurd H (by simp)
             · rw [if_neg c8] at H
               have c8b0 : decide (x5_2 < 1304) = false := decide_eq_false c8
               clear c8
               obtain rfl := Option.some.inj H
               go_wp2
               go_ret
               exact ⟨_, by first | rfl | (simp [errW_none, errW_some] <;> rfl) | (simp [*, errW_none, errW_some] <;> rfl), by (with_reducible repeat (first | apply Kd.R_alloc | apply Kd.R_drewN | apply Kd.R_drew)); exact HO_6.out, by repeat (first | (with_reducible first | exact HB.out | apply below_alloc | apply pw_below_drewN | apply below_drew1) | exact HB.out)⟩
           · rw [if_neg c7] at H
             have c7b0 : (t142 == a0) = false := beq_eq_false_iff_ne.mpr c7
             have c7b1 : (t142 != a0) = true := bne_iff_ne.mpr c7
             obtain rfl := Option.some.inj H
             go_wp2
             go_ret
             exact ⟨_, by first | rfl | (simp [errW_none, errW_some] <;> rfl) | (simp [*, errW_none, errW_some] <;> rfl), by (with_reducible repeat (first | apply Kd.R_alloc | apply Kd.R_drewN | apply Kd.R_drew)); exact HO_6.out, by repeat (first | (with_reducible first | exact HB.out | apply below_alloc | apply pw_below_drewN | apply below_drew1) | exact HB.out)⟩
     · rw [if_neg c3] at H
       have c3b0 : decide (x3_1 < 1304) = false := decide_eq_false c3
       clear c3
       obtain rfl := Option.some.inj H
       go_wp2
       go_ret
       exact ⟨_, by first | rfl | (simp [errW_none, errW_some] <;> rfl) | (simp [*, errW_none, errW_some] <;> rfl), by first | exact Kd.R_nil _ _ _ _ _ | exact Kd.N_nil _ _ _ _ _ | exact Kd.V_nil _ _ _ _ _ | exact Kd.Q_nil _ _ _ _ _ | exact Kd.S_nil _ _ _ _ _, by repeat (first | (with_reducible first | exact HB.out | apply below_alloc | apply pw_below_drewN | apply below_drew1) | exact HB.out)⟩

end Go.Proofs.Ytdefoinlpepolaa.MGrp
