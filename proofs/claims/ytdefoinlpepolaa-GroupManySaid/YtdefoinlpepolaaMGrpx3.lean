-- written by mp.py, a program of this session's over the kit's printer
import Derived.Test.YtdefoinlpepolaaMGrpx0
import Derived.Test.YtdefoinlpepolaaMGrpx2
namespace Go.Proofs.Ytdefoinlpepolaa.MGrp
open Go.RowKit Go.Proofs.YtdefoinlpepolaaW.PrintWords Go.Proofs.YtdefoinlpepolaaW.PrintLast Go.Proofs.YtdefoinlpepolaaW.PrintMore
attribute [local go_sem] max2_int min2_int max_two min_two max_three min_three max_four min_four   -- for this text's walks alone
set_option linter.unusedVariables false
set_option linter.unusedSimpArgs false

/-! ### norm_Apart: function 137 -/
theorem hangul_Split.nil_ (a0 : Int) (w : World) (h : a0 < 44032 ∨ 55204 ≤ a0) : Calls Try.prog 160 #[.int .i64 a0] w fun e w' => e = .returned (.slice none 0 0) ∧ w = w' := by
  by_cases h1 : a0 < 44032
  · have b1 : decide (a0 < 44032) = true := decide_eq_true h1
    clear h h1
    go_enter Try.func160, Try.ntmps160
    go_wp2
    go_ret
    exact ⟨rfl, rfl⟩
  · have b1 : decide (a0 < 44032) = false := decide_eq_false h1
    have b2 : decide (55204 ≤ a0) = true := decide_eq_true (by omega)
    clear h h1
    go_enter Try.func160, Try.ntmps160
    go_wp2
    go_ret
    exact ⟨rfl, rfl⟩
theorem hangul_Split.out_ {k : Nat} {a0 : Int} (h : hangul_Split.f k a0 = some []) : a0 < 44032 ∨ 55204 ≤ a0 := by
  unfold hangul_Split.f at h
  by_cases h1 : a0 < 44032
  · exact .inl h1
  · rw [if_neg h1] at h
    by_cases h2 : 55204 ≤ a0
    · exact .inr h2
    · exfalso
      rw [decide_eq_false (show ¬ a0 ≥ 55204 from h2)] at h
      cases k with
      | zero => cases h
      | succ k =>
        rw [hangul_Split.j0, if_neg Bool.false_ne_true, Option.bind_some] at h
        split at h
        · split at h
          · simp at h
          · cases h
        · simp at h
theorem ucd_Map.l1_more_ : ∀ (k : Nat) (a b c : Int) (l r : List Int), ucd_Map.l1 k a b c l = some r → l ≠ [] → r ≠ []
  | 0, _, _, _, _, _, h, _ => by cases h
  | k + 1, a, b, c, l, r, h, hl => by
    rw [ucd_Map.l1] at h
    repeat' split at h
    all_goals first
      | (obtain ⟨x, hx, h2⟩ := Option.bind_eq_some_iff.1 h
         exact ucd_Map.l1_more_ k _ _ _ _ _ h2 (by simp))
      | (obtain ⟨x, hx, h2⟩ := Option.bind_eq_some_iff.1 h
         cases h2; done)
      | (obtain ⟨x, hx, h2⟩ := Option.bind_eq_some_iff.1 h
         split at h2
         · exact ucd_Map.l1_more_ k _ _ _ _ _ h2 (by simp)
         · cases h2)
      | (cases h; done)
      | (obtain rfl := Option.some.inj h; exact hl)
set_option maxHeartbeats 8000000 in
set_option maxRecDepth 100000 in
theorem ucd_Map.nil_ (k : Nat) (a0 : Int) (w : World) (h : ucd_Map.f k a0 = some []) :
    Calls Try.prog 161 #[.int .i64 a0] w fun e w' => e = .returned (.slice none 0 0) ∧ Below w.heap.size w w' := by
  have HB := Aside0.mk (Below.refl w.heap.size w)
  unfold ucd_Map.f at h
  by_cases c2 : a0 < 192
  · have c2b0 : decide (a0 < 192) = true := decide_eq_true c2
    clear h c2
    go_enter Try.func161, Try.ntmps161
    go_wp2
    go_ret
    exact ⟨rfl, HB.out⟩
  · rw [if_neg c2] at h
    have c2b0 : decide (a0 < 192) = false := decide_eq_false c2
    have H' := Aside0.mk h
    clear h c2
    go_enter Try.func161, Try.ntmps161
    rw [← lit_31b68b_eq]
    go_wp2
    go_loopg [3] k (fun kq v3 w' => ∃ (x3_1 : Int), v3 = .int .i64 x3_1 ∧ Aside0 (ucd_Map.l0 kq a0 x3_1 = some []) ∧ Aside0 (kq ≤ k) ∧ Aside0 (Below w.heap.size w w'))
    case atStart => exact ⟨0, rfl, H', ⟨Nat.le_refl _⟩, HB⟩
    case round =>
      clear H'
      obtain ⟨x3_1, rfl, HA, HK1, HB⟩ := hrel
      cases gk with
      | zero => exact absurd HA.out (by simp [ucd_Map.l0])
      | succ k1 =>
        have H := HA.out
        clear HA
        rw [ucd_Map.l0] at H
        by_cases c3 : x3_1 < 1304
        · rw [if_pos c3] at H
          have c3b0 : decide (x3_1 < 1304) = true := decide_eq_true c3
          clear c3
          obtain ⟨⟨t107, t108⟩, A40, H⟩ := Option.bind_eq_some_iff.mp H
          replace H : (if t107 < a0 then ((ucd_line.f k1 lit_31b68b x3_1).bind fun t109 => (ucd_Map.l0 k1 a0 t109)) else (ucd_Map.l1 k1 a0 t107 t108 ([] : List Int))) = some [] := H
          have A4 := Aside0.mk A40
          clear A40
          by_cases c5 : t107 < a0
          · rw [if_pos c5] at H
            have c5b0 : decide (t107 < a0) = true := decide_eq_true c5
            clear c5
            obtain ⟨t109, A60, H⟩ := Option.bind_eq_some_iff.mp H
            have A6 := Aside0.mk A60
            clear A60
            have H' := Aside0.mk H
            clear H
            go_wp2_with (first | (go_at_call 172; (with_reducible refine (ucd_hex.calls k1 lit_31b68b x3_1 t107 t108 _ A4.out).mono ?_); rintro e w' ⟨rfl, ⟨nd, rfl⟩⟩) | (go_at_call 171; (with_reducible refine (ucd_line.calls k1 lit_31b68b x3_1 t109 _ A6.out).mono ?_); rintro e w' ⟨rfl, ⟨nd, rfl⟩⟩))
            go_roundg k1
            case measure => have := HK1.out; omega
            case rel => exact ⟨t109, rfl, H', ⟨by have := HK1.out; omega⟩, ⟨by repeat (first | (with_reducible first | exact HB.out | apply below_alloc | apply pw_below_drewN | apply below_drew1) | exact HB.out)⟩⟩
          · rw [if_neg c5] at H
            have c5b0 : decide (t107 < a0) = false := decide_eq_false c5
            clear c5
            have H' := Aside0.mk H
            clear H
            go_wp2_with (go_at_call 172; (with_reducible refine (ucd_hex.calls k1 lit_31b68b x3_1 t107 t108 _ A4.out).mono ?_); rintro e w' ⟨rfl, ⟨nd, rfl⟩⟩)
            go_loopg [5, 6] k1 (fun kq v5 v6 w' => ∃ (x5_2 : Int), v5 = .int .i64 x5_2 ∧ v6 = .slice none 0 0 ∧ Aside0 (ucd_Map.l1 kq a0 t107 x5_2 [] = some []) ∧ Aside0 (kq ≤ k1) ∧ Aside0 (Below w.heap.size w w'))
            case atStart => exact ⟨t108, rfl, rfl, H', ⟨Nat.le_refl _⟩, ⟨by repeat (first | (with_reducible first | exact HB.out | apply below_alloc | apply pw_below_drewN | apply below_drew1) | exact HB.out)⟩⟩
            case round =>
              clear H'
              obtain ⟨x5_2, rfl, rfl, HA, HK2, HB⟩ := hrel
              cases gk with
              | zero => exact absurd HA.out (by simp [ucd_Map.l1])
              | succ k2 =>
                have H := HA.out
                clear HA
                rw [ucd_Map.l1] at H
                by_cases c7 : t107 = a0
                · rw [if_pos c7] at H
                  have c7b0 : (t107 == a0) = true := beq_iff_eq.mpr c7
                  have c7b1 : (t107 != a0) = false := bne_eq_false_iff_eq.mpr c7
                  clear c7
                  by_cases c8 : x5_2 < 1304
                  · rw [if_pos c8] at H
                    have c8b0 : decide (x5_2 < 1304) = true := decide_eq_true c8
                    clear c8
                    by_cases c9 : 0 ≤ x5_2
                    · rw [if_pos c9] at H
                      have c9b0 : decide (0 ≤ x5_2) = true := decide_eq_true c9
                      by_cases c10 : x5_2 < (lit_31b68b.size : Int)
                      · rw [if_pos c10] at H
                        have c10b0 : decide (x5_2 < (lit_31b68b.size : Int)) = true := decide_eq_true c10
                        by_cases c12 : (bt lit_31b68b x5_2) = 32
                        · rw [if_pos c12] at H
                          exfalso
                          obtain ⟨⟨t110, t111⟩, A130, H⟩ := Option.bind_eq_some_iff.mp H
                          split at H
                          · exact ucd_Map.l1_more_ _ _ _ _ _ _ H (by simp) rfl
                          · cases H
                        · rw [if_neg c12] at H
                          have c12b0 : ((bt lit_31b68b x5_2) == 32) = false := beq_eq_false_iff_ne.mpr c12
                          have c12b1 : ((bt lit_31b68b x5_2) != 32) = true := bne_iff_ne.mpr c12
                          clear H
                          have hx11 := bt_at lit_31b68b x5_2
                          have p11 := eq_true c9
                          have q11 := eq_true c10
                          clear c9 c10
                          go_wp2
                          go_ret
                          exact ⟨rfl, by repeat (first | (with_reducible first | exact HB.out | apply below_alloc | apply pw_below_drewN | apply below_drew1) | exact HB.out)⟩
                      · rw [if_neg c10] at H; cases H
                    · rw [if_neg c9] at H; cases H
                  · have c8b0 : decide (x5_2 < 1304) = false := decide_eq_false c8
                    clear c8 H
                    go_wp2
                    go_ret
                    exact ⟨rfl, by repeat (first | (with_reducible first | exact HB.out | apply below_alloc | apply pw_below_drewN | apply below_drew1) | exact HB.out)⟩
                · have c7b0 : (t107 == a0) = false := beq_eq_false_iff_ne.mpr c7
                  have c7b1 : (t107 != a0) = true := bne_iff_ne.mpr c7
                  clear H
                  go_wp2
                  go_ret
                  exact ⟨rfl, by repeat (first | (with_reducible first | exact HB.out | apply below_alloc | apply pw_below_drewN | apply below_drew1) | exact HB.out)⟩
        · have c3b0 : decide (x3_1 < 1304) = false := decide_eq_false c3
          clear c3 H
          go_wp2
          go_ret
          exact ⟨rfl, by repeat (first | (with_reducible first | exact HB.out | apply below_alloc | apply pw_below_drewN | apply below_drew1) | exact HB.out)⟩
def norm_Apart.f (k : Nat) (a0 : Int) : Option (List Int) :=
  (hangul_Split.f k a0).bind fun l => if l = [] then (ucd_Map.f k a0).bind fun m => if m = [] then some [a0] else some m else some l
theorem norm_Apart.mono : ∀ a0 k, LeO (norm_Apart.f k a0) (norm_Apart.f (k + 1) a0) := fun a0 k =>
  LeO.bind (hangul_Split.mono a0 k) (fun _ => LeO.ite (LeO.bind (ucd_Map.mono a0 k) (fun _ => LeO.refl _)) (LeO.refl _))
theorem apart_some_ {α : Type} {d : Kd α} {e base : Nat} {w : World} {ok : Nat → Prop} {v : Value} {xs : List α} (h : d.R e w base ok v xs) (hx : xs ≠ []) : ∃ ad c, v = .slice (some ad) xs.length c := by
  obtain ⟨g, c, hv, _⟩ := Kd.R_form h (List.length_pos_iff.2 hx)
  exact ⟨_, c, hv⟩
set_option maxHeartbeats 8000000 in
set_option maxRecDepth 100000 in
theorem norm_Apart.calls (k : Nat) (a0 : Int) (r : List Int) (w : World) (h : norm_Apart.f k a0 = some r) :
    Calls Try.prog 137 #[.int .i64 a0] w fun e w' => ∃ v0_ : Value, e = .returned (v0_) ∧ Kd.R (Kd.int .i64) 3 w' w.heap.size (fun _ => True) v0_ r ∧ Below w.heap.size w w' := by
  unfold norm_Apart.f at h
  obtain ⟨l, hl, h⟩ := Option.bind_eq_some_iff.1 h
  have HL := Aside0.mk hl
  clear hl
  have hnn := fun (x : Addr) (n c : Nat) (W : World) => run_neq_slice_nil_any (P := Try.prog) W 50 3 (some x) n c 0 0 Try.underlying50
  have hn0 := fun (W : World) => run_neq_slice_nil_any (P := Try.prog) W 50 3 none 0 0 0 0 Try.underlying50
  by_cases c1 : l = []
  · subst c1
    rw [if_pos (Eq.refl ([] : List Int))] at h
    have HO := Aside0.mk (hangul_Split.out_ HL.out)
    obtain ⟨m, hm, h⟩ := Option.bind_eq_some_iff.1 h
    have HM := Aside0.mk hm
    clear hm
    by_cases c2 : m = []
    · subst c2
      rw [if_pos (Eq.refl ([] : List Int))] at h
      obtain rfl := Option.some.inj h
      clear h
      go_enter Try.func137, Try.ntmps137
      go_wp2_with (first | (go_at_call 160; refine (hangul_Split.nil_ a0 _ HO.out).mono ?_; rintro e w1 ⟨rfl, rfl⟩) | (go_at_call 161; refine (ucd_Map.nil_ k a0 _ HM.out).mono ?_; rintro e w2 ⟨rfl, hb⟩) | (((with_reducible refine gate_dst (N := 16) rfl ?_); refine Kd.R_lit (Kd.int .i64) _ 3 ?hg (N := 16) ?hd (xs := ([a0] : List Int)) (inner := [.int .i64 a0]) (ok := fun _ => True) (okp := fun _ => True) ?hr ?hp (fun _ hk => hk) trivial (Below.refl _ _) (Nat.le_refl _) (by simp) ?_; (case hd => rfl); (case hg => rfl); (case hr => first | (go_simp; done) | (go_simp; rfl)); (case hp => exact (Reps.one (show Kd.M (Kd.int .i64) _ _ _ a0 [.int .i64 a0] from rfl) (Reps.none _ _)))); intro v1_ w3 ho3 hb3 hg_ hnew_; clear hg_ hnew_))
      go_ret
      exact ⟨_, rfl, Kd.R_lower ho3 (below_size hb), below_step hb hb3⟩
    · rw [if_neg c2] at h
      obtain rfl := Option.some.inj h
      have hne := Aside0.mk c2
      clear h c2
      go_enter Try.func137, Try.ntmps137
      go_wp2_with (first | (go_at_call 160; refine (hangul_Split.nil_ a0 _ HO.out).mono ?_; rintro e w1 ⟨rfl, rfl⟩) | (go_at_call 161; refine (ucd_Map.calls k a0 _ _ HM.out).mono ?_; rintro e w2 ⟨v0_, rfl, hr, hb⟩; obtain ⟨ad, cc, rfl⟩ := apart_some_ hr hne.out))
      go_ret
      exact ⟨_, rfl, hr, hb⟩
  · rw [if_neg c1] at h
    obtain rfl := Option.some.inj h
    have hne := Aside0.mk c1
    clear h c1
    go_enter Try.func137, Try.ntmps137
    go_wp2_with (go_at_call 160; refine (hangul_Split.calls k a0 _ _ HL.out).mono ?_; rintro e w2 ⟨v0_, rfl, hr, hb⟩; obtain ⟨ad, cc, rfl⟩ := apart_some_ hr hne.out)
    go_ret
    exact ⟨_, rfl, hr, hb⟩

/-! ### norm_Order_1_1: function 164 -/
def norm_Order_1_1.f (a0_0 : Int) (a0_1 : Int) (a1_0 : Int) (a1_1 : Int) : Option (Int) := some (wrap64 (a0_1 - a1_1))
set_option maxHeartbeats 8000000 in
set_option maxRecDepth 100000 in
theorem norm_Order_1_1.calls (a0_0 : Int) (a0_1 : Int) (a1_0 : Int) (a1_1 : Int) (r : Int) (w : World) (h : norm_Order_1_1.f a0_0 a0_1 a1_0 a1_1 = some r) :
 Calls Try.prog 164 #[.agg #[.int .i64 a0_0, .int .i64 a0_1], .agg #[.int .i64 a1_0, .int .i64 a1_1]] w fun e w' => e = .returned (.int .i64 r) ∧ Below w.heap.size w w' := by
 have hu189 := Try.underlying189
 have HB := Aside0.mk (Below.refl w.heap.size w)
 have H : (some (wrap64 (a0_1 - a1_1))) = some r := h
 clear h
 obtain rfl := Option.some.inj H
 go_enter Try.func164, Try.ntmps164
 go_wp2_with (first | ((with_reducible refine gate_dst (N := 2) rfl ?_); refine box_event ?hg (N := 2) ?hd (cs := #[.int .i64 a0_0, .int .i64 a0_1]) (t := 189) ?hr ?_; (case hd => rfl); (case hg => rfl); (case hr => first | (go_simp; done) | (go_simp; rfl)); intro gb150 hg w3 hbox hb; have n0_ := Aside0.mk (below_step (by repeat (first | (with_reducible first | exact HB.out | apply below_alloc | apply pw_below_drewN | apply below_drew1) | exact HB.out)) hb); have n1_ := Aside0.mk (hbox); have n2_ := Aside0.mk ((by rw [hg]; exact (below_size (by repeat (first | (with_reducible first | exact HB.out | apply below_alloc | apply pw_below_drewN | apply below_drew1) | exact HB.out))) : w.heap.size ≤ gb150)); have n3_ := Aside0.mk ((by rw [hg]; exact (below_size (by repeat (first | (with_reducible first | exact HB.out | apply below_alloc | apply pw_below_drewN | apply below_drew1) | exact HB.out))) : w.heap.size ≤ gb150)); clear HB; have HB := n0_; have BK150 := n1_; have GW150 := n2_; have GE150 := n3_; clear n0_ n1_ n2_ n3_; clear hb hbox hg) | ((with_reducible refine gate_dst (N := 3) rfl ?_); refine box_event ?hg (N := 3) ?hd (cs := #[.int .i64 a1_0, .int .i64 a1_1]) (t := 189) ?hr ?_; (case hd => rfl); (case hg => rfl); (case hr => first | (go_simp; done) | (go_simp; rfl)); intro gb151 hg w4 hbox hb; have n0_ := Aside0.mk (blk_below (g := gb150) (o := .cells #[.int .i64 a0_0, .int .i64 a0_1] 189 (0, 0)) (by (with_reducible repeat (first | refine blk_drewN ?_ _ | refine blk_drew ?_ | refine blk_alloc ?_ _)); exact BK150.out) hb); have n1_ := Aside0.mk (below_step (by repeat (first | (with_reducible first | exact HB.out | apply below_alloc | apply pw_below_drewN | apply below_drew1 | refine below_set ?_ GE150.out) | exact HB.out)) hb); have n2_ := Aside0.mk (hbox); have n3_ := Aside0.mk ((by rw [hg]; exact (below_size (by repeat (first | (with_reducible first | exact HB.out | apply below_alloc | apply pw_below_drewN | apply below_drew1 | refine below_set ?_ GE150.out) | exact HB.out))) : w.heap.size ≤ gb151)); have n4_ := Aside0.mk ((by rw [hg]; exact (below_size (by repeat (first | (with_reducible first | exact HB.out | apply below_alloc | apply pw_below_drewN | apply below_drew1 | refine below_set ?_ GE150.out) | exact HB.out))) : w.heap.size ≤ gb151)); have n5_ := Aside0.mk ((by rw [hg]; exact Nat.ne_of_lt (blk_lt (g := gb150) (o := .cells #[.int .i64 a0_0, .int .i64 a0_1] 189 (0, 0)) (by (with_reducible repeat (first | refine blk_drewN ?_ _ | refine blk_drew ?_ | refine blk_alloc ?_ _)); exact BK150.out)) : gb150 ≠ gb151)); have n6_ := Aside0.mk ((by rw [hg]; exact Nat.ne_of_gt (blk_lt (g := gb150) (o := .cells #[.int .i64 a0_0, .int .i64 a0_1] 189 (0, 0)) (by (with_reducible repeat (first | refine blk_drewN ?_ _ | refine blk_drew ?_ | refine blk_alloc ?_ _)); exact BK150.out)) : gb151 ≠ gb150)); clear BK150; clear HB; have BK150 := n0_; have HB := n1_; have BK151 := n2_; have GW151 := n3_; have GE151 := n4_; have NB150_151 := n5_; have NB151_150 := n6_; clear n0_ n1_ n2_ n3_ n4_ n5_ n6_; clear hb hbox hg; have hnb5 := NB150_151.out; have hnc5 := NB151_150.out; have hcz6_0 : w4.cell? ⟨gb150, 0, none⟩ = some (.int .i64 a0_0) := (blk_cell BK150.out 0).trans rfl; have hcz6_1 : w4.cell? ⟨gb150, 1, none⟩ = some (.int .i64 a0_1) := (blk_cell BK150.out 1).trans rfl; have hfz6_0 := blk_frozen BK150.out 0; have hfz6_1 := blk_frozen BK150.out 1; have hcz7_0 : w4.cell? ⟨gb151, 0, none⟩ = some (.int .i64 a1_0) := (blk_cell BK151.out 0).trans rfl; have hcz7_1 : w4.cell? ⟨gb151, 1, none⟩ = some (.int .i64 a1_1) := (blk_cell BK151.out 1).trans rfl; have hfz7_0 := blk_frozen BK151.out 0; have hfz7_1 := blk_frozen BK151.out 1))
 go_ret
 exact ⟨by first | rfl | (simp [errW_none, errW_some] <;> rfl) | (simp [*, errW_none, errW_some] <;> rfl), by repeat (first | (with_reducible first | exact HB.out | apply below_alloc | apply pw_below_drewN | apply below_drew1 | refine below_set ?_ GE150.out | refine below_set ?_ GE151.out) | exact HB.out)⟩

end Go.Proofs.Ytdefoinlpepolaa.MGrp
