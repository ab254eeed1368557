/-
  One operation's step, and a region whose order is the text's.
-/
import Derived.Test.YtjhijcehcklipaaZEvOpW2
import Derived.Orders
set_option linter.unusedVariables false
set_option linter.unusedSimpArgs false
namespace Go.Proofs.Ytjhijcehcklipaa.Ev
open Go.RowKit (Below)

section
variable {P : Program} {φ : Ph}
theorem Evals.mono {φ' : Ph} {T : Fr} {a : Act} (h : Evals φ T a) (hl : Le φ φ') : Evals φ' T a := ⟨h.1, fun t => (h.2 t).mono hl⟩
theorem put_n (T : Fr) (d : Option Nat) (v : AV) : (put T d v).n = T.n := by
  unfold put
  split
  · split <;> rfl
  · rfl
theorem put_at {T : Fr} (hn : T.n ≤ 1000000) (d : Option Nat) (v : AV) (t : Nat) : (put T d v).at t = if d = some t ∧ t < T.n then v else T.at t := by
  unfold put
  cases d with
  | none => rw [if_neg (by simp)]
  | some u =>
    by_cases h : u < T.n
    · simp only [h, if_true]
      unfold Fr.at
      rw [Tr.at_set _ _ _ _ (by omega)]
      by_cases q : t = u
      · subst q; rw [if_pos rfl, if_pos ⟨rfl, h⟩]; rfl
      · rw [if_neg q, if_neg (by intro z; exact q (Option.some.inj z.1).symm)]
    · simp only [h, if_false]
      rw [if_neg (by intro z; have := Option.some.inj z.1; omega)]
theorem Evals.put {T : Fr} {a : Act} (h : Evals φ T a) (hn : T.n ≤ 1000000) (d : Option Nat) {v : AV} {u : Value} (hv : VR φ v u) : Evals φ (put T d v) (a.put d u) := by
  refine ⟨?_, fun t => ?_⟩
  · rw [put_n, h.1]
    cases d with
    | none => rfl
    | some d => simp [Act.put]
  · rw [put_at hn]
    cases d with
    | none => rw [if_neg (by simp)]; exact h.2 t
    | some d =>
      simp only [Act.put]
      by_cases q : d = t
      · subst q
        by_cases hd : d < T.n
        · rw [if_pos ⟨rfl, hd⟩]
          have : d < a.tmps.size := by rw [← h.1]; exact hd
          simp [this]; exact hv
        · rw [if_neg (by intro z; exact hd z.2)]
          have : ¬ d < a.tmps.size := by rw [← h.1]; exact hd
          have e := h.2 d
          have hs : a.tmps.setIfInBounds d u = a.tmps := Array.setIfInBounds_eq_of_size_le (by omega)
          rw [hs]; exact e
      · rw [if_neg (by intro z; exact q (Option.some.inj z.1))]
        have e := h.2 t
        simpa [Array.getElem?_setIfInBounds_ne q] using e
theorem wants_rel {ops : Array Oper} {T : Fr} {a : Act} (h : Evals φ T a) {o : Oper} {b : Bool} (e : wants ops T o = some b) : Region.wanted o (yielded ops a.tmps) = b := by
  unfold wants at e
  unfold Region.wanted
  split at e
  · rename_i hg
    rw [hg]; exact Option.some.inj e
  · rename_i j want hg
    rw [hg]
    simp only
    split at e
    · rename_i t ht
      split at e
      · rename_i x hx
        have hv := h.2 t
        rw [hx, VR] at hv
        have hy : a.tmps[t]? = some (.bool x) := by
          cases hq : a.tmps[t]? with
          | none =>
            rw [Array.getD_eq_getD_getElem?, hq] at hv
            cases hv
          | some y => rw [Array.getD_eq_getD_getElem?, hq] at hv; simp at hv; rw [hv]
        unfold yielded
        rw [ht]
        simp only [Option.bind_some, hy]
        obtain rfl := Option.some.inj e
        cases x <;> cases want <;> rfl
      · rename_i hx
        have hv := h.2 t
        rw [hx] at hv
        obtain ⟨vs, hv, hn⟩ := hv
        obtain rfl := Option.some.inj e
        have hvs : vs = [] := by cases vs with | nil => rfl | cons _ _ => exact hn.elim
        subst hvs
        unfold yielded
        rw [ht]
        simp only [Option.bind_some]
        cases hq : a.tmps[t]? with
        | none => rfl
        | some y =>
          rw [Array.getD_eq_getD_getElem?, hq] at hv
          simp at hv
          rw [hv]; rfl
      · cases e
    · cases e

/-- What the calls of the second reading tell holds of the model's. -/
structure Sims (P : Program) (cf : Nat → List AV → AH → Option (AV × AH)) : Prop where
  nx : ∀ g as H v H', cf g as H = some (v, H') → H.next ≤ H'.next
  fn : ∀ g as H r, cf g as H = some r → ∃ fn, P.funcs[g]? = some fn ∧ fn.body.isSome = true ∧ (fn.name == "runtime.NumGoroutine") = false
  ok : ∀ g as H v H', cf g as H = some (v, H') → ∀ (φ : Ph) (B : Nat) (vs : List Value) (w : World), HR φ H w B → VRs φ as vs →
    Calls P g ⟨vs⟩ w fun e w' => ∃ u φ', e = .returned u ∧ VR φ' v u ∧ HR φ' H' w' B ∧ Ext φ φ' H H' ∧ Below B w w'

variable {ops : Array Oper} {Q : Exit → Act → World → Prop} {cf : Nat → List AV → AH → Option (AV × AH)}
theorem wp_val {o : Oper} {a : Act} {w w' : World} {K : Act → World → Prop} {u : Value} (h : (execOp a.eval o).run P w = .ok (.value u) w') (hk : K (a.put o.dst u) w') : o.wp P a w K Q := by
  unfold Oper.wp; rw [h]; exact hk
theorem wp_skipv {o : Oper} {a : Act} {w w' : World} {K : Act → World → Prop} (h : (execOp a.eval o).run P w = .ok .skip w') (hk : K (a.put o.dst undef) w') : o.wp P a w K Q := by
  unfold Oper.wp; rw [h]; exact hk
/-- One step: whatever stands behind it. -/
theorem doOp_ok [MethsOk P] (hc : Sims P cf) {i : Nat} {o : Oper} (ho : ops[i]? = some o) {T T' : Fr} {H H' : AH} {a : Act} {w : World} {B : Nat} (hn : T.n ≤ 1000000) (h : Evals φ T a) (hH : HR φ H w B) (e : doOp P cf ops o T H = some (T', H')) {K : Act → World → Prop}
    (hK : ∀ φ' u v w', VR φ' v u → T' = put T o.dst v → HR φ' H' w' B → Ext φ φ' H H' → Below B w w' → K (a.put o.dst u) w') : wpOp P ops Q i K a w := by
  unfold wpOp
  rw [ho]
  simp only
  unfold doOp at e
  split at e
  · rename_i hw
    rw [if_pos (wants_rel h hw)]
    refine .inl ?_
    split at e
    · rename_i hk
      obtain ⟨v, h1, h2⟩ := Option.map_eq_some_iff.1 e
      obtain ⟨rfl, rfl⟩ := Prod.mk.inj h2
      obtain ⟨u, u1, u2⟩ := opP_ok h h1 hk
      exact wp_val (u1 w) (hK φ u v w u2 rfl hH (Ext.refl _ _) (Below.refl _ _))
    · obtain ⟨v, h1, h2⟩ := Option.map_eq_some_iff.1 e
      obtain ⟨rfl, rfl⟩ := Prod.mk.inj h2
      obtain ⟨u, u1, u2⟩ := opR_ok h hH h1
      exact wp_val u1 (hK φ u v w u2 rfl hH (Ext.refl _ _) (Below.refl _ _))
    · split at e
      · rename_i q h1
        split at e
        · rename_i hok
          obtain ⟨rfl, rfl⟩ := Prod.mk.inj (Option.some.inj e)
          obtain ⟨s, s1, w', arr, elem, lo, hi, u, m1, m2, m3, m4, m5, m6, m7, m8⟩ := opA_ok h h1 w (okNew_spec hok).2
          obtain ⟨r1, r2⟩ := hH.make (z := q.z) hok m2 m3 m7
          refine wp_val (by rw [s1]; exact run_v m1) (hK _ u _ w' (m8 _ H.next (upd_same _ _ _ _)) rfl r1 r2 ⟨m4, m5, m6, by rw [m2, Array.size_push]; omega, fun k hk => ?_⟩)
          have := hH.base
          rw [m2, Array.getElem?_push, if_neg (by omega)]
        · cases e
      · cases e
    · obtain ⟨⟨v, H''⟩, h1, h2⟩ := Option.map_eq_some_iff.1 e
      obtain ⟨rfl, rfl⟩ := Prod.mk.inj h2
      obtain ⟨φ', w', nx, u, p1, p2, p3, p4, p5, p6⟩ := opW_ok h hH h1
      rcases p2 with rfl | ⟨rfl, rfl⟩
      · exact wp_val p1 (hK φ' u v w' p3 rfl p4 p5 p6)
      · exact wp_skipv p1 (hK φ' _ v w' p3 rfl p4 p5 p6)
    · split at e
      · rename_i g as h1
        obtain ⟨⟨v, H''⟩, h2, h3⟩ := Option.map_eq_some_iff.1 e
        obtain ⟨rfl, rfl⟩ := Prod.mk.inj h3
        obtain ⟨fn, f1, f2, f3⟩ := hc.fn _ _ _ _ h2
        obtain ⟨vs, q1, q2⟩ := opC_ok h hH h1 f1 f2 f3
        unfold Oper.wp
        rw [q1, Oper.upon_enter]
        refine (hc.ok _ _ _ _ _ h2 φ B vs w hH q2).mono fun en w' hr => ?_
        obtain ⟨u, φ', rfl, r1, r2, r3, r4⟩ := hr
        exact hK φ' u v w' r1 rfl r2 r3 r4
      · cases e
    · cases e
  · rename_i hw
    obtain ⟨rfl, rfl⟩ := Prod.mk.inj (Option.some.inj e)
    rw [if_neg (by rw [wants_rel h hw]; exact Bool.false_ne_true)]
    exact hK φ undef (.tup []) w ⟨[], rfl, trivial⟩ rfl hH (Ext.refl _ _) (Below.refl _ _)
  · cases e
theorem doOp_n {o : Oper} {T T' : Fr} {H H' : AH} (e : doOp P cf ops o T H = some (T', H')) : ∃ v, T' = put T o.dst v := by
  unfold doOp at e
  split at e
  · split at e
    · obtain ⟨v, _, h2⟩ := Option.map_eq_some_iff.1 e; obtain ⟨rfl, rfl⟩ := Prod.mk.inj h2; exact ⟨_, rfl⟩
    · obtain ⟨v, _, h2⟩ := Option.map_eq_some_iff.1 e; obtain ⟨rfl, rfl⟩ := Prod.mk.inj h2; exact ⟨_, rfl⟩
    · split at e
      · split at e
        · obtain ⟨rfl, rfl⟩ := Prod.mk.inj (Option.some.inj e); exact ⟨_, rfl⟩
        · cases e
      · cases e
    · obtain ⟨v, _, h2⟩ := Option.map_eq_some_iff.1 e; obtain ⟨rfl, rfl⟩ := Prod.mk.inj h2; exact ⟨_, rfl⟩
    · split at e
      · obtain ⟨v, _, h2⟩ := Option.map_eq_some_iff.1 e; obtain ⟨rfl, rfl⟩ := Prod.mk.inj h2; exact ⟨_, rfl⟩
      · cases e
    · cases e
  · obtain ⟨rfl, rfl⟩ := Prod.mk.inj (Option.some.inj e); exact ⟨_, rfl⟩
  · cases e
theorem put_defers (a : Act) (d : Option Tmp) (u : Value) : (a.put d u).defers = a.defers := by cases d <;> rfl
/-- What stands behind a text of the second reading. -/
def Post (φ : Ph) (H : AH) (w : World) (B : Nat) (a : Act) (T' : Fr) (H' : AH) (K : Act → World → Prop) : Prop :=
  ∀ φ' a' w', Evals φ' T' a' → HR φ' H' w' B → Ext φ φ' H H' → Below B w w' → a'.defers = a.defers → K a' w'
theorem ops_seq [MethsOk P] (hc : Sims P cf) : ∀ (l : List Oper) (i : Nat) (φ : Ph) (T T' : Fr) (H H' : AH) (a : Act) (w : World) (B : Nat), (∀ j, l[j]? = ops[i + j]?) → T.n ≤ 1000000 → Evals φ T a → HR φ H w B → doOps P cf ops l T H = some (T', H') →
    Post φ H w B a T' H' (Q .normal) → wpOps P ops Q (List.range' i l.length) a w
  | [], i, φ, T, T', H, H', a, w, B, hl, hn, h, hH, e, hK => by
    rw [doOps] at e
    obtain ⟨rfl, rfl⟩ := Prod.mk.inj (Option.some.inj e)
    exact hK φ a w h hH (Ext.refl _ _) (Below.refl _ _) rfl
  | o :: l, i, φ, T, T', H, H', a, w, B, hl, hn, h, hH, e, hK => by
    rw [doOps] at e
    split at e
    · rename_i T1 H1 h1
      rw [List.length_cons, List.range'_succ, wpOps_cons]
      refine doOp_ok hc (by have := hl 0; simpa using this.symm) hn h hH h1 fun φ1 u v w1 r1 r2 r3 r4 r5 => ?_
      have hE : Evals φ1 T1 (a.put o.dst u) := by rw [r2]; exact (h.mono r4.le).put hn o.dst r1
      refine ops_seq hc l (i + 1) φ1 T1 T' H1 H' _ w1 B (fun j => ?_) (by rw [r2, put_n]; exact hn) hE r3 e fun φ' a' w' k1 k2 k3 k4 k5 => ?_
      · have := hl (j + 1)
        rw [List.getElem?_cons_succ] at this
        rw [this]; congr 1; omega
      · exact hK φ' a' w' k1 k2 (r4.trans k3) (r5.trans k4) (k5.trans (put_defers _ _ _))
    · cases e
theorem region_seq [MethsOk P] (hc : Sims P cf) {id : Nat} {T T' : Fr} {H H' : AH} {a : Act} {w : World} {B : Nat} (hn : T.n ≤ 1000000) (h : Evals φ T a) (hH : HR φ H w B) (e : doOps P cf ops ops.toList T H = some (T', H'))
    (hK : Post φ H w B a T' H' (Q .normal)) : (Code.region id ops false).wp P Q a w := by
  refine wp_region ?_
  have := ops_seq (Q := Q) hc ops.toList 0 φ T T' H H' a w B (fun j => by rw [Nat.zero_add, Array.getElem?_toList]) hn h hH e hK
  rw [Array.length_toList, ← List.range_eq_range'] at this
  exact this
end
end Go.Proofs.Ytjhijcehcklipaa.Ev
