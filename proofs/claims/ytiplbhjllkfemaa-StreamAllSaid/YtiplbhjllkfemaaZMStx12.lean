-- written by mp.py, a program of this session's over the kit's printer
import Derived.Test.YtiplbhjllkfemaaZMStx0
import Derived.Test.YtiplbhjllkfemaaZMStx5
import Derived.Test.YtiplbhjllkfemaaZMStx11
namespace Go.Proofs.Ytiplbhjllkfemaa.MSt
open Go.RowKit Go.Proofs.YtiplbhjllkfemaaW.PrintWords Go.Proofs.YtiplbhjllkfemaaW.PrintLast Go.Proofs.YtiplbhjllkfemaaW.PrintMore
attribute [local go_sem] max2_int min2_int max_two min_two max_three min_three max_four min_four   -- for this text's walks alone
set_option linter.unusedVariables false
set_option linter.unusedSimpArgs false

/-! ### norm_Apart: function 50 -/
theorem hangul_Split.nil_ (a0 : Int) (w : World) (h : a0 < 44032 ∨ 55204 ≤ a0) : Calls Try.prog 68 #[.int .i64 a0] w fun e w' => e = .returned (.slice none 0 0) ∧ w = w' := by
  by_cases h1 : a0 < 44032
  · have b1 : decide (a0 < 44032) = true := decide_eq_true h1
    clear h h1
    go_enter Try.func68, Try.ntmps68
    go_wp2
    go_ret
    exact ⟨rfl, rfl⟩
  · have b1 : decide (a0 < 44032) = false := decide_eq_false h1
    have b2 : decide (55204 ≤ a0) = true := decide_eq_true (by omega)
    clear h h1
    go_enter Try.func68, Try.ntmps68
    go_wp2
    go_ret
    exact ⟨rfl, rfl⟩
theorem hangul_Split.out_ {k : Nat} {a0 : Int} (h : hangul_Split.f k a0 = some []) : a0 < 44032 ∨ 55204 ≤ a0 := by
  unfold hangul_Split.f at h
  by_cases h1 : a0 < 44032
  · exact .inl h1
  · rw [if_neg h1] at h
    by_cases h2 : 55204 ≤ a0
    · exact .inr h2
    · exfalso
      rw [decide_eq_false (show ¬ a0 ≥ 55204 from h2)] at h
      cases k with
      | zero => cases h
      | succ k =>
        rw [hangul_Split.j0, if_neg Bool.false_ne_true, Option.bind_some] at h
        split at h
        · split at h
          · simp at h
          · cases h
        · simp at h
theorem ucd_Map.l1_more_ : ∀ (k : Nat) (a b c : Int) (l r : List Int), ucd_Map.l1 k a b c l = some r → l ≠ [] → r ≠ []
  | 0, _, _, _, _, _, h, _ => by cases h
  | k + 1, a, b, c, l, r, h, hl => by
    rw [ucd_Map.l1] at h
    repeat' split at h
    all_goals first
      | (obtain ⟨x, hx, h2⟩ := Option.bind_eq_some_iff.1 h
         exact ucd_Map.l1_more_ k _ _ _ _ _ h2 (by simp))
      | (obtain ⟨x, hx, h2⟩ := Option.bind_eq_some_iff.1 h
         cases h2; done)
      | (obtain ⟨x, hx, h2⟩ := Option.bind_eq_some_iff.1 h
         split at h2
         · exact ucd_Map.l1_more_ k _ _ _ _ _ h2 (by simp)
         · cases h2)
      | (cases h; done)
      | (obtain rfl := Option.some.inj h; exact hl)
set_option maxHeartbeats 8000000 in
set_option maxRecDepth 100000 in
theorem ucd_Map.nil_ (k : Nat) (a0 : Int) (w : World) (h : ucd_Map.f k a0 = some []) :
    Calls Try.prog 69 #[.int .i64 a0] w fun e w' => e = .returned (.slice none 0 0) ∧ Below w.heap.size w w' := by
  have HB := Aside0.mk (Below.refl w.heap.size w)
  unfold ucd_Map.f at h
  by_cases c2 : a0 < 192
  · have c2b0 : decide (a0 < 192) = true := decide_eq_true c2
    clear h c2
    go_enter Try.func69, Try.ntmps69
    go_wp2
    go_ret
    exact ⟨rfl, HB.out⟩
  · rw [if_neg c2] at h
    have c2b0 : decide (a0 < 192) = false := decide_eq_false c2
    have H' := Aside0.mk h
    clear h c2
    go_enter Try.func69, Try.ntmps69
    rw [← lit_31b68b_eq]
    go_wp2
    go_loopg [3] k (fun kq v3 w' => ∃ (x3_1 : Int), v3 = .int .i64 x3_1 ∧ Aside0 (ucd_Map.l0 kq a0 x3_1 = some []) ∧ Aside0 (kq ≤ k) ∧ Aside0 (Below w.heap.size w w'))
    case atStart => exact ⟨0, rfl, H', ⟨Nat.le_refl _⟩, HB⟩
    case round =>
      clear H'
      obtain ⟨x3_1, rfl, HA, HK1, HB⟩ := hrel
      cases gk with
      | zero => exact absurd HA.out (by simp [ucd_Map.l0])
      | succ k1 =>
        have H := HA.out
        clear HA
        rw [ucd_Map.l0] at H
        by_cases c3 : x3_1 < 1304
        · rw [if_pos c3] at H
          have c3b0 : decide (x3_1 < 1304) = true := decide_eq_true c3
          clear c3
          obtain ⟨⟨t107, t108⟩, A40, H⟩ := Option.bind_eq_some_iff.mp H
          replace H : (if t107 < a0 then ((ucd_line.f k1 lit_31b68b x3_1).bind fun t109 => (ucd_Map.l0 k1 a0 t109)) else (ucd_Map.l1 k1 a0 t107 t108 ([] : List Int))) = some [] := H
          have A4 := Aside0.mk A40
          clear A40
          by_cases c5 : t107 < a0
          · rw [if_pos c5] at H
            have c5b0 : decide (t107 < a0) = true := decide_eq_true c5
            clear c5
            obtain ⟨t109, A60, H⟩ := Option.bind_eq_some_iff.mp H
            have A6 := Aside0.mk A60
            clear A60
            have H' := Aside0.mk H
            clear H
            go_wp2_with (first | (go_at_call 71; (with_reducible refine (ucd_hex.calls k1 lit_31b68b x3_1 t107 t108 _ A4.out).mono ?_); rintro e w' ⟨rfl, ⟨nd, rfl⟩⟩) | (go_at_call 70; (with_reducible refine (ucd_line.calls k1 lit_31b68b x3_1 t109 _ A6.out).mono ?_); rintro e w' ⟨rfl, ⟨nd, rfl⟩⟩))
            go_roundg k1
            case measure => have := HK1.out; omega
            case rel => exact ⟨t109, rfl, H', ⟨by have := HK1.out; omega⟩, ⟨by repeat (first | (with_reducible first | exact HB.out | apply below_alloc | apply pw_below_drewN | apply below_drew1) | exact HB.out)⟩⟩
          · rw [if_neg c5] at H
            have c5b0 : decide (t107 < a0) = false := decide_eq_false c5
            clear c5
            have H' := Aside0.mk H
            clear H
            go_wp2_with (go_at_call 71; (with_reducible refine (ucd_hex.calls k1 lit_31b68b x3_1 t107 t108 _ A4.out).mono ?_); rintro e w' ⟨rfl, ⟨nd, rfl⟩⟩)
            go_loopg [5, 6] k1 (fun kq v5 v6 w' => ∃ (x5_2 : Int), v5 = .int .i64 x5_2 ∧ v6 = .slice none 0 0 ∧ Aside0 (ucd_Map.l1 kq a0 t107 x5_2 [] = some []) ∧ Aside0 (kq ≤ k1) ∧ Aside0 (Below w.heap.size w w'))
            case atStart => exact ⟨t108, rfl, rfl, H', ⟨Nat.le_refl _⟩, ⟨by repeat (first | (with_reducible first | exact HB.out | apply below_alloc | apply pw_below_drewN | apply below_drew1) | exact HB.out)⟩⟩
            case round =>
              clear H'
              obtain ⟨x5_2, rfl, rfl, HA, HK2, HB⟩ := hrel
              cases gk with
              | zero => exact absurd HA.out (by simp [ucd_Map.l1])
              | succ k2 =>
                have H := HA.out
                clear HA
                rw [ucd_Map.l1] at H
                by_cases c7 : t107 = a0
                · rw [if_pos c7] at H
                  have c7b0 : (t107 == a0) = true := beq_iff_eq.mpr c7
                  have c7b1 : (t107 != a0) = false := bne_eq_false_iff_eq.mpr c7
                  clear c7
                  by_cases c8 : x5_2 < 1304
                  · rw [if_pos c8] at H
                    have c8b0 : decide (x5_2 < 1304) = true := decide_eq_true c8
                    clear c8
                    by_cases c9 : 0 ≤ x5_2
                    · rw [if_pos c9] at H
                      have c9b0 : decide (0 ≤ x5_2) = true := decide_eq_true c9
                      by_cases c10 : x5_2 < (lit_31b68b.size : Int)
                      · rw [if_pos c10] at H
                        have c10b0 : decide (x5_2 < (lit_31b68b.size : Int)) = true := decide_eq_true c10
                        by_cases c12 : (bt lit_31b68b x5_2) = 32
                        · rw [if_pos c12] at H
                          exfalso
                          obtain ⟨⟨t110, t111⟩, A130, H⟩ := Option.bind_eq_some_iff.mp H
                          split at H
                          · exact ucd_Map.l1_more_ _ _ _ _ _ _ H (by simp) rfl
                          · cases H
                        · rw [if_neg c12] at H
                          have c12b0 : ((bt lit_31b68b x5_2) == 32) = false := beq_eq_false_iff_ne.mpr c12
                          have c12b1 : ((bt lit_31b68b x5_2) != 32) = true := bne_iff_ne.mpr c12
                          clear H
                          have hx11 := bt_at lit_31b68b x5_2
                          have p11 := eq_true c9
                          have q11 := eq_true c10
                          clear c9 c10
                          go_wp2
                          go_ret
                          exact ⟨rfl, by repeat (first | (with_reducible first | exact HB.out | apply below_alloc | apply pw_below_drewN | apply below_drew1) | exact HB.out)⟩
                      · rw [if_neg c10] at H; cases H
                    · rw [if_neg c9] at H; cases H
                  · have c8b0 : decide (x5_2 < 1304) = false := decide_eq_false c8
                    clear c8 H
                    go_wp2
                    go_ret
                    exact ⟨rfl, by repeat (first | (with_reducible first | exact HB.out | apply below_alloc | apply pw_below_drewN | apply below_drew1) | exact HB.out)⟩
                · have c7b0 : (t107 == a0) = false := beq_eq_false_iff_ne.mpr c7
                  have c7b1 : (t107 != a0) = true := bne_iff_ne.mpr c7
                  clear H
                  go_wp2
                  go_ret
                  exact ⟨rfl, by repeat (first | (with_reducible first | exact HB.out | apply below_alloc | apply pw_below_drewN | apply below_drew1) | exact HB.out)⟩
        · have c3b0 : decide (x3_1 < 1304) = false := decide_eq_false c3
          clear c3 H
          go_wp2
          go_ret
          exact ⟨rfl, by repeat (first | (with_reducible first | exact HB.out | apply below_alloc | apply pw_below_drewN | apply below_drew1) | exact HB.out)⟩
def norm_Apart.f (k : Nat) (a0 : Int) : Option (List Int) :=
  (hangul_Split.f k a0).bind fun l => if l = [] then (ucd_Map.f k a0).bind fun m => if m = [] then some [a0] else some m else some l
theorem norm_Apart.mono : ∀ a0 k, LeO (norm_Apart.f k a0) (norm_Apart.f (k + 1) a0) := fun a0 k =>
  LeO.bind (hangul_Split.mono a0 k) (fun _ => LeO.ite (LeO.bind (ucd_Map.mono a0 k) (fun _ => LeO.refl _)) (LeO.refl _))
theorem apart_some_ {α : Type} {d : Kd α} {e base : Nat} {w : World} {ok : Nat → Prop} {v : Value} {xs : List α} (h : d.R e w base ok v xs) (hx : xs ≠ []) : ∃ ad c, v = .slice (some ad) xs.length c := by
  obtain ⟨g, c, hv, _⟩ := Kd.R_form h (List.length_pos_iff.2 hx)
  exact ⟨_, c, hv⟩
set_option maxHeartbeats 8000000 in
set_option maxRecDepth 100000 in
theorem norm_Apart.calls (k : Nat) (a0 : Int) (r : List Int) (w : World) (h : norm_Apart.f k a0 = some r) :
    Calls Try.prog 50 #[.int .i64 a0] w fun e w' => ∃ v0_ : Value, e = .returned (v0_) ∧ Kd.R (Kd.int .i64) 3 w' w.heap.size (fun _ => True) v0_ r ∧ Below w.heap.size w w' := by
  unfold norm_Apart.f at h
  obtain ⟨l, hl, h⟩ := Option.bind_eq_some_iff.1 h
  have HL := Aside0.mk hl
  clear hl
  have hnn := fun (x : Addr) (n c : Nat) (W : World) => run_neq_slice_nil_any (P := Try.prog) W 27 3 (some x) n c 0 0 Try.underlying27
  have hn0 := fun (W : World) => run_neq_slice_nil_any (P := Try.prog) W 27 3 none 0 0 0 0 Try.underlying27
  by_cases c1 : l = []
  · subst c1
    rw [if_pos (Eq.refl ([] : List Int))] at h
    have HO := Aside0.mk (hangul_Split.out_ HL.out)
    obtain ⟨m, hm, h⟩ := Option.bind_eq_some_iff.1 h
    have HM := Aside0.mk hm
    clear hm
    by_cases c2 : m = []
    · subst c2
      rw [if_pos (Eq.refl ([] : List Int))] at h
      obtain rfl := Option.some.inj h
      clear h
      go_enter Try.func50, Try.ntmps50
      go_wp2_with (first | (go_at_call 68; refine (hangul_Split.nil_ a0 _ HO.out).mono ?_; rintro e w1 ⟨rfl, rfl⟩) | (go_at_call 69; refine (ucd_Map.nil_ k a0 _ HM.out).mono ?_; rintro e w2 ⟨rfl, hb⟩) | (((with_reducible refine gate_dst (N := 16) rfl ?_); refine Kd.R_lit (Kd.int .i64) _ 3 ?hg (N := 16) ?hd (xs := ([a0] : List Int)) (inner := [.int .i64 a0]) (ok := fun _ => True) (okp := fun _ => True) ?hr ?hp (fun _ hk => hk) trivial (Below.refl _ _) (Nat.le_refl _) (by simp) ?_; (case hd => rfl); (case hg => rfl); (case hr => first | (go_simp; done) | (go_simp; rfl)); (case hp => exact (Reps.one (show Kd.M (Kd.int .i64) _ _ _ a0 [.int .i64 a0] from rfl) (Reps.none _ _)))); intro v1_ w3 ho3 hb3 hg_ hnew_; clear hg_ hnew_))
      go_ret
      exact ⟨_, rfl, Kd.R_lower ho3 (below_size hb), below_step hb hb3⟩
    · rw [if_neg c2] at h
      obtain rfl := Option.some.inj h
      have hne := Aside0.mk c2
      clear h c2
      go_enter Try.func50, Try.ntmps50
      go_wp2_with (first | (go_at_call 68; refine (hangul_Split.nil_ a0 _ HO.out).mono ?_; rintro e w1 ⟨rfl, rfl⟩) | (go_at_call 69; refine (ucd_Map.calls k a0 _ _ HM.out).mono ?_; rintro e w2 ⟨v0_, rfl, hr, hb⟩; obtain ⟨ad, cc, rfl⟩ := apart_some_ hr hne.out))
      go_ret
      exact ⟨_, rfl, hr, hb⟩
  · rw [if_neg c1] at h
    obtain rfl := Option.some.inj h
    have hne := Aside0.mk c1
    clear h c1
    go_enter Try.func50, Try.ntmps50
    go_wp2_with (go_at_call 68; refine (hangul_Split.calls k a0 _ _ HL.out).mono ?_; rintro e w2 ⟨v0_, rfl, hr, hb⟩; obtain ⟨ad, cc, rfl⟩ := apart_some_ hr hne.out)
    go_ret
    exact ⟨_, rfl, hr, hb⟩

/-- A state of type 66 at block g of W; what its slices lead to came in by w0. -/
def IsS66 (w0 W : World) (g : Nat) (f0 : ByteArray) (f1 : List Int) (f2 : Int) (f3 : Int) (f4 : Bool) : Prop := ∃ A1 c1, W.heap[g]? = some (.cells #[.string f0, .slice A1 f1.length c1, .int .i64 f2, .int .i64 f3, .bool f4] 66 (0, 0)) ∧ w0.heap.size ≤ g ∧ Kd.C (Kd.int .i64) w0 A1 f1.length f1
theorem IsS66.grown {w0 W : World} {g : Nat} {f0 : ByteArray} {f1 : List Int} {f2 : Int} {f3 : Int} {f4 : Bool} {W1 : World} {row : Option Nat} (h : IsS66 w0 W g f0 f1 f2 f3 f4) (hw : W.grownBy W1 row) (hne : some g ≠ row) : IsS66 w0 W1 g f0 f1 f2 f3 f4 := by
  obtain ⟨A1, c1, hb, hg, hr1⟩ := h
  exact ⟨A1, c1, blk_grown hb hw hne, hg, hr1⟩
theorem IsS66.own_neN {w0 W : World} {g : Nat} {f0 : ByteArray} {f1 : List Int} {f2 : Int} {f3 : Int} {f4 : Bool} {α : Type} {d : Kd α} {e : Nat} {base : Nat} {ok : Nat → Prop} {v : Value} {xs : List α} (h : IsS66 w0 W g f0 f1 f2 f3 f4) (ho : Kd.N d e W base ok v xs) (ht : e ≠ 66) : some g ≠ v.ownBlock := by
  obtain ⟨A1, c1, hb, hg, hr1⟩ := h
  exact Kd.N_ne ho hb ht
theorem IsS66.fresh {w0 W : World} {g : Nat} {f0 : ByteArray} {f1 : List Int} {f2 : Int} {f3 : Int} {f4 : Bool} (h : IsS66 w0 W g f0 f1 f2 f3 f4) : ∀ k, W.heap.size ≤ k → k ≠ g := by
  obtain ⟨A1, c1, hb, hg, hr1⟩ := h
  exact Kd.freshB hb
theorem IsS66.kept {w0 W : World} {g : Nat} {f0 : ByteArray} {f1 : List Int} {f2 : Int} {f3 : Int} {f4 : Bool} {W1 : World} {S : Nat → Prop} (h : IsS66 w0 W g f0 f1 f2 f3 f4) (hk : Kept W W1 S) (hne : ¬ S g) : IsS66 w0 W1 g f0 f1 f2 f3 f4 := by
  obtain ⟨A1, c1, hb, hg, hr1⟩ := h
  exact ⟨A1, c1, blk_kept hb hk hne, hg, hr1⟩
theorem IsS66.below {w0 W : World} {g : Nat} {f0 : ByteArray} {f1 : List Int} {f2 : Int} {f3 : Int} {f4 : Bool} {W1 : World} (h : IsS66 w0 W g f0 f1 f2 f3 f4) (hw : Below W.heap.size W W1) : IsS66 w0 W1 g f0 f1 f2 f3 f4 := h.grown (grown_of_below hw none) (by simp)
theorem IsS66.alloc {w0 W : World} {g : Nat} {f0 : ByteArray} {f1 : List Int} {f2 : Int} {f3 : Int} {f4 : Bool} (h : IsS66 w0 W g f0 f1 f2 f3 f4) (o : Obj) : IsS66 w0 (W.alloc o) g f0 f1 f2 f3 f4 := h.below (below_alloc (Below.refl _ _) o)
theorem IsS66.drewN {w0 W : World} {g : Nat} {f0 : ByteArray} {f1 : List Int} {f2 : Int} {f3 : Int} {f4 : Bool} (h : IsS66 w0 W g f0 f1 f2 f3 f4) (m : Nat) : IsS66 w0 (W.drewN m) g f0 f1 f2 f3 f4 := h
theorem IsS66.drew {w0 W : World} {g : Nat} {f0 : ByteArray} {f1 : List Int} {f2 : Int} {f3 : Int} {f4 : Bool} (h : IsS66 w0 W g f0 f1 f2 f3 f4) : IsS66 w0 W.drew g f0 f1 f2 f3 f4 := h
theorem IsS66.at_ {w0 W : World} {g : Nat} {f0 : ByteArray} {f1 : List Int} {f2 : Int} {f3 : Int} {f4 : Bool} {w' : World} {m : Nat} (hq : W.drewN m = w') (h : IsS66 w0 W g f0 f1 f2 f3 f4) : IsS66 w0 w' g f0 f1 f2 f3 f4 := by subst hq; exact IsS66.drewN h m
theorem IsS66.apart {w0 W : World} {g : Nat} {f0 : ByteArray} {f1 : List Int} {f2 : Int} {f3 : Int} {f4 : Bool} {α : Type} {d : Kd α} {e : Nat} {base : Nat} {ok : Nat → Prop} {v : Value} {xs : List α} (h : IsS66 w0 W g f0 f1 f2 f3 f4) (ho : d.R e W base ok v xs) (ht : ∀ q, q ∈ e :: d.E → q ≠ 66) : d.R e W base (fun k => ok k ∧ k ≠ g) v xs := by
  obtain ⟨A1, c1, hb, hg, hr1⟩ := h
  exact Kd.R_types ho hb ht
theorem IsS66.own_ne {w0 W : World} {g : Nat} {f0 : ByteArray} {f1 : List Int} {f2 : Int} {f3 : Int} {f4 : Bool} {α : Type} {d : Kd α} {e : Nat} {base : Nat} {ok : Nat → Prop} {v : Value} {xs : List α} (h : IsS66 w0 W g f0 f1 f2 f3 f4) (ho : d.R e W base ok v xs) (ht : e ≠ 66) : some g ≠ v.ownBlock := by
  obtain ⟨A1, c1, hb, hg, hr1⟩ := h
  exact Kd.R_ne ho hb ht
theorem IsS66.apartQ {w0 W : World} {g : Nat} {f0 : ByteArray} {f1 : List Int} {f2 : Int} {f3 : Int} {f4 : Bool} {α : Type} {d : Kd α} {e : Nat} {base : Nat} {ok : Nat → Prop} {v : Value} {xs : List α} (h : IsS66 w0 W g f0 f1 f2 f3 f4) (ho : d.Q e W base ok v xs) (ht : ∀ q, q ∈ e :: d.E → q ≠ 66) : d.Q e W base (fun k => ok k ∧ k ≠ g) v xs := by
  obtain ⟨A1, c1, hb, hg, hr1⟩ := h
  exact Kd.Q_types ho hb ht
theorem IsS66.own_neQ {w0 W : World} {g : Nat} {f0 : ByteArray} {f1 : List Int} {f2 : Int} {f3 : Int} {f4 : Bool} {α : Type} {d : Kd α} {e : Nat} {base : Nat} {ok : Nat → Prop} {v : Value} {xs : List α} (h : IsS66 w0 W g f0 f1 f2 f3 f4) (ho : d.Q e W base ok v xs) (ht : e ≠ 66) : some g ≠ v.ownBlock := by
  obtain ⟨A1, c1, hb, hg, hr1⟩ := h
  exact Kd.Q_ne ho hb ht
theorem IsS66.apartS {w0 W : World} {g : Nat} {f0 : ByteArray} {f1 : List Int} {f2 : Int} {f3 : Int} {f4 : Bool} {α : Type} {d : Kd α} {e : Nat} {base : Nat} {ok : Nat → Prop} {v : Value} {xs : List α} (h : IsS66 w0 W g f0 f1 f2 f3 f4) (ho : d.S e W base ok v xs) (ht : ∀ q, q ∈ e :: d.E → q ≠ 66) : d.S e W base (fun k => ok k ∧ k ≠ g) v xs := by
  obtain ⟨A1, c1, hb, hg, hr1⟩ := h
  exact Kd.S_types ho hb ht
theorem IsS66.own_neS {w0 W : World} {g : Nat} {f0 : ByteArray} {f1 : List Int} {f2 : Int} {f3 : Int} {f4 : Bool} {α : Type} {d : Kd α} {e : Nat} {base : Nat} {ok : Nat → Prop} {v : Value} {xs : List α} (h : IsS66 w0 W g f0 f1 f2 f3 f4) (ho : d.S e W base ok v xs) (ht : e ≠ 66) : some g ≠ v.ownBlock := by
  obtain ⟨A1, c1, hb, hg, hr1⟩ := h
  exact Kd.S_ne ho hb ht
theorem IsS66.lt {w0 W : World} {g : Nat} {f0 : ByteArray} {f1 : List Int} {f2 : Int} {f3 : Int} {f4 : Bool} (h : IsS66 w0 W g f0 f1 f2 f3 f4) : g < W.heap.size := by
  obtain ⟨A1, c1, hb, hg, hr1⟩ := h
  exact blk_lt hb
theorem IsS66.ge {w0 W : World} {g : Nat} {f0 : ByteArray} {f1 : List Int} {f2 : Int} {f3 : Int} {f4 : Bool} (h : IsS66 w0 W g f0 f1 f2 f3 f4) : w0.heap.size ≤ g := by
  obtain ⟨A1, c1, hb, hg, hr1⟩ := h
  exact hg
theorem IsS66.ne_blk {w0 W : World} {g : Nat} {f0 : ByteArray} {f1 : List Int} {f2 : Int} {f3 : Int} {f4 : Bool} {a : Nat} {cs : Array Value} {t : TypeId} {fr : Nat × Nat} (h : IsS66 w0 W g f0 f1 f2 f3 f4) (hb2 : W.heap[a]? = some (.cells cs t fr)) (ht : t ≠ 66) : g ≠ a := by
  obtain ⟨A1, c1, hb, hg, hr1⟩ := h
  rintro rfl
  rw [hb] at hb2
  injection hb2 with hb2
  injection hb2 with _ ht2
  exact ht ht2.symm
theorem IsS66.far {w0 W : World} {g : Nat} {f0 : ByteArray} {f1 : List Int} {f2 : Int} {f3 : Int} {f4 : Bool} {p : Addr} (h : IsS66 w0 W g f0 f1 f2 f3 f4) (hne : g ≠ p.block) (u : Value) : IsS66 w0 (W.setCell p u) g f0 f1 f2 f3 f4 := by
  obtain ⟨A1, c1, hb, hg, hr1⟩ := h
  exact ⟨A1, c1, blk_far hb hne u, hg, hr1⟩
theorem cellS66_0 {W : World} {g : Nat} {A1 : Option Addr} {c1 : Nat} {f0 : ByteArray} {f1 : List Int} {f2 : Int} {f3 : Int} {f4 : Bool} (h : W.heap[g]? = some (.cells #[.string f0, .slice A1 f1.length c1, .int .i64 f2, .int .i64 f3, .bool f4] 66 (0, 0))) : W.cell? ⟨g, 0, none⟩ = some (.string f0) := (blk_cell h 0).trans rfl
theorem IsS66.set_0 {w0 W : World} {g : Nat} {f0 : ByteArray} {f1 : List Int} {f2 : Int} {f3 : Int} {f4 : Bool} (h : IsS66 w0 W g f0 f1 f2 f3 f4) (x : ByteArray) : IsS66 w0 (W.setCell ⟨g, 0, none⟩ (.string x)) g x f1 f2 f3 f4 := by
  obtain ⟨A1, c1, hb, hg, hr1⟩ := h
  exact ⟨A1, c1, by simpa using blk_set hb 0 (.string x), hg, hr1⟩
theorem cellS66_1 {W : World} {g : Nat} {A1 : Option Addr} {c1 : Nat} {f0 : ByteArray} {f1 : List Int} {f2 : Int} {f3 : Int} {f4 : Bool} (h : W.heap[g]? = some (.cells #[.string f0, .slice A1 f1.length c1, .int .i64 f2, .int .i64 f3, .bool f4] 66 (0, 0))) : W.cell? ⟨g, 1, none⟩ = some (.slice A1 f1.length c1) := (blk_cell h 1).trans rfl
theorem cellS66_2 {W : World} {g : Nat} {A1 : Option Addr} {c1 : Nat} {f0 : ByteArray} {f1 : List Int} {f2 : Int} {f3 : Int} {f4 : Bool} (h : W.heap[g]? = some (.cells #[.string f0, .slice A1 f1.length c1, .int .i64 f2, .int .i64 f3, .bool f4] 66 (0, 0))) : W.cell? ⟨g, 2, none⟩ = some (.int .i64 f2) := (blk_cell h 2).trans rfl
theorem IsS66.set_2 {w0 W : World} {g : Nat} {f0 : ByteArray} {f1 : List Int} {f2 : Int} {f3 : Int} {f4 : Bool} (h : IsS66 w0 W g f0 f1 f2 f3 f4) (x : Int) : IsS66 w0 (W.setCell ⟨g, 2, none⟩ (.int .i64 x)) g f0 f1 x f3 f4 := by
  obtain ⟨A1, c1, hb, hg, hr1⟩ := h
  exact ⟨A1, c1, by simpa using blk_set hb 2 (.int .i64 x), hg, hr1⟩
theorem cellS66_3 {W : World} {g : Nat} {A1 : Option Addr} {c1 : Nat} {f0 : ByteArray} {f1 : List Int} {f2 : Int} {f3 : Int} {f4 : Bool} (h : W.heap[g]? = some (.cells #[.string f0, .slice A1 f1.length c1, .int .i64 f2, .int .i64 f3, .bool f4] 66 (0, 0))) : W.cell? ⟨g, 3, none⟩ = some (.int .i64 f3) := (blk_cell h 3).trans rfl
theorem IsS66.set_3 {w0 W : World} {g : Nat} {f0 : ByteArray} {f1 : List Int} {f2 : Int} {f3 : Int} {f4 : Bool} (h : IsS66 w0 W g f0 f1 f2 f3 f4) (x : Int) : IsS66 w0 (W.setCell ⟨g, 3, none⟩ (.int .i64 x)) g f0 f1 f2 x f4 := by
  obtain ⟨A1, c1, hb, hg, hr1⟩ := h
  exact ⟨A1, c1, by simpa using blk_set hb 3 (.int .i64 x), hg, hr1⟩
theorem cellS66_4 {W : World} {g : Nat} {A1 : Option Addr} {c1 : Nat} {f0 : ByteArray} {f1 : List Int} {f2 : Int} {f3 : Int} {f4 : Bool} (h : W.heap[g]? = some (.cells #[.string f0, .slice A1 f1.length c1, .int .i64 f2, .int .i64 f3, .bool f4] 66 (0, 0))) : W.cell? ⟨g, 4, none⟩ = some (.bool f4) := (blk_cell h 4).trans rfl
theorem IsS66.set_4 {w0 W : World} {g : Nat} {f0 : ByteArray} {f1 : List Int} {f2 : Int} {f3 : Int} {f4 : Bool} (h : IsS66 w0 W g f0 f1 f2 f3 f4) (x : Bool) : IsS66 w0 (W.setCell ⟨g, 4, none⟩ (.bool x)) g f0 f1 f2 f3 x := by
  obtain ⟨A1, c1, hb, hg, hr1⟩ := h
  exact ⟨A1, c1, by simpa using blk_set hb 4 (.bool x), hg, hr1⟩
theorem IsS66.new (w0 W : World) (A1 : Option Addr) (c1 : Nat) (f0 : ByteArray) (f1 : List Int) (f2 : Int) (f3 : Int) (f4 : Bool) (hB : Below w0.heap.size w0 W) (hr1 : Kd.C (Kd.int .i64) w0 A1 f1.length f1) : IsS66 w0 (W.alloc (.cells #[.string f0, .slice A1 f1.length c1, .int .i64 f2, .int .i64 f3, .bool f4] 66)) W.heap.size f0 f1 f2 f3 f4 := ⟨A1, c1, by simpa using heap_alloc_new W _, hB.size, hr1⟩

end Go.Proofs.Ytiplbhjllkfemaa.MSt
