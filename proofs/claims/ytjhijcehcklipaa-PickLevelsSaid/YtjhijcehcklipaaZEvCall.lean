/-
  Texts and calls: what the second reading tells holds of the model's run, whatever the world, the orders and the capacities.
-/
import Derived.Test.YtjhijcehcklipaaZEvDraw2
import Derived.LoopN
set_option linter.unusedVariables false
set_option linter.unusedSimpArgs false
namespace Go.Proofs.Ytjhijcehcklipaa.Ev
open Go.RowKit (Below)

section
variable {P : Program} {cf : Nat → List AV → AH → Option (AV × AH)}
theorem region_draw [MethsOk P] (hc : Sims P cf) (hm : P.follows .mixedOrders = true) {ops : Array Oper} {Q : Exit → Act → World → Prop} {φ : Ph} {id : Nat} {T T' : Fr} {H H' : AH} {a : Act} {w : World} {B : Nat} (hn : T.n ≤ 1000000) (h : Evals φ T a) (hH : HR φ H w B)
    (e : doDraw P cf ops T H = some (T', H')) (hK : Post φ H w B a T' H' (Q .normal)) : (Code.region id ops true).wp P Q a w := by
  obtain ⟨TS, HS, R, rfl, rfl, rfl, rfl⟩ := run_of e
  refine wp_region_any hm ?_
  obtain ⟨k, k1, k2, k3, k4⟩ := next_w (P := P) (ops := ops) ops.size 0 (by omega)
  obtain ⟨m1, m2⟩ := HS_more hc R k 0 (by omega) (fun p x _ hp hx => k3 p x (Nat.zero_le _) (by omega) hx) hH.nx
  have hmn := HS_mono hc R k 0 (by omega)
  rw [Nat.zero_add] at m1 m2 hmn
  have hz : ∀ i, (Array.replicate ops.size false).getD i false = false := fun i => by
    by_cases q : i < ops.size <;> simp [q]
  refine draw_any hc R hn (w0 := w) hK ops.size _ a _ φ k ?_ ⟨by simp, (fun j o _ hl => by rw [hz] at hl; cases hl), k2, fun p x hp hpw hlt => ?_, fun p x hp hpw hle => hz p, k4, ?_, ⟨?_, fun t => ?_⟩, fun i x hi _ _ _ v => ?_, Le.refl φ, fun o v L e => .inl ⟨v, L, e⟩, ⟨rfl, rfl, rfl, Nat.le_refl _, fun _ _ => rfl⟩, rfl⟩
  · have : ∀ n, ((List.range n).filter fun i => !(Array.replicate ops.size false).getD i false) = List.range n := fun n => List.filter_eq_self.2 fun i _ => by rw [hz]; rfl
    rw [this, List.length_range]
  · have := k3 p x (Nat.zero_le _) hlt hp
    rw [hpw] at this; cases this
  · have hw : HR φ (HS 0) { w with drawn := w.drawn + 1 } B := ⟨hH.inv.of fun _ _ => rfl, hH.base, hH.low, hH.inj, hH.nx, hH.ob⟩
    exact hw.more hmn m1 m2
  · rw [TV_n]; exact h.1
  · rw [TV_at R hn (Nat.zero_le _) (fun i o hi => by omega) fun i o _ _ _ => hz i]
    exact h.2 t
  · cases q : φ (HS i).next v with
    | none => rfl
    | some L =>
      obtain ⟨_, _, h2, _⟩ := hH.ob _ _ _ q
      have hib := (Array.getElem?_eq_some_iff.1 hi).1
      have := HS_mono hc R i 0 (by omega)
      rw [Nat.zero_add] at this
      omega
theorem out3 {X X' : AX} {T T' : Fr} {H H' : AH} (e : some (X, T, H) = some (X', T', H')) : X = X' ∧ T = T' ∧ H = H' := by
  have := Option.some.inj e
  exact ⟨congrArg (·.1) this, congrArg (·.2.1) this, congrArg (·.2.2) this⟩
def exitOf : AX → Exit
  | .nrm => .normal
  | .ex id => .exit id
  | .ret => .ret
theorem doOps_mono (hx : ∀ g as H v H', cf g as H = some (v, H') → H.next ≤ H'.next) {ops : Array Oper} : ∀ (l : List Oper) (T T' : Fr) (H H' : AH), doOps P cf ops l T H = some (T', H') → T'.n = T.n ∧ H.next ≤ H'.next
  | [], T, T', H, H', e => by rw [doOps] at e; obtain ⟨rfl, rfl⟩ := Prod.mk.inj (Option.some.inj e); exact ⟨rfl, Nat.le_refl _⟩
  | o :: l, T, T', H, H', e => by
    rw [doOps] at e
    split at e
    · rename_i T1 H1 h1
      obtain ⟨k1, k2⟩ := doOps_mono hx l _ _ _ _ e
      obtain ⟨v, hv⟩ := doOp_n h1
      have hc : ∀ {H H' : AH} {T T' : Fr}, doOp P cf ops o T H = some (T', H') → H.next ≤ H'.next := by
        intro H H' T T' e
        unfold doOp at e
        split at e
        · split at e
          · obtain ⟨v, _, h2⟩ := Option.map_eq_some_iff.1 e; obtain ⟨_, rfl⟩ := Prod.mk.inj h2; exact Nat.le_refl _
          · obtain ⟨v, _, h2⟩ := Option.map_eq_some_iff.1 e; obtain ⟨_, rfl⟩ := Prod.mk.inj h2; exact Nat.le_refl _
          · split at e
            · split at e
              · obtain ⟨_, rfl⟩ := Prod.mk.inj (Option.some.inj e); exact Nat.le_succ _
              · cases e
            · cases e
          · obtain ⟨⟨v, H''⟩, h1, h2⟩ := Option.map_eq_some_iff.1 e; obtain ⟨_, rfl⟩ := Prod.mk.inj h2; exact opW_nx h1
          · split at e
            · obtain ⟨⟨v, H''⟩, h1, h2⟩ := Option.map_eq_some_iff.1 e; obtain ⟨_, rfl⟩ := Prod.mk.inj h2; exact hx _ _ _ _ _ h1
            · cases e
          · cases e
        · obtain ⟨_, rfl⟩ := Prod.mk.inj (Option.some.inj e); exact Nat.le_refl _
        · cases e
      exact ⟨by rw [k1, hv, put_n], Nat.le_trans (hc h1) k2⟩
    · cases e
theorem states_last : ∀ {ops : Array Oper} (l : List Oper) (T : Fr) (H : AH) (st : List (Fr × AH)), states P cf ops l T H = some st → ∀ T' H', st[l.length]? = some (T', H') → doOps P cf ops l T H = some (T', H')
  | ops, [], T, H, st, h, T', H', hl => by rw [states] at h; obtain rfl := Option.some.inj h; simpa [doOps] using hl
  | ops, o :: l, T, H, st, h, T', H', hl => by
    rw [states] at h
    split at h
    · rename_i T1 H1 h1
      obtain ⟨st', h2, rfl⟩ := Option.map_eq_some_iff.1 h
      rw [doOps, h1]
      exact states_last l T1 H1 st' h2 T' H' (by simpa using hl)
    · cases h
theorem draw_ops {ops : Array Oper} {T T' : Fr} {H H' : AH} (e : doDraw P cf ops T H = some (T', H')) : doOps P cf ops ops.toList T H = some (T', H') := by
  unfold doDraw at e
  split at e
  · split at e
    · rename_i st hst
      split at e
      · exact states_last _ _ _ _ hst _ _ (by rw [Array.length_toList]; exact e)
      · cases e
    · cases e
  · cases e
theorem iter_mono {step : Fr → AH → Option (AX × Fr × AH)} (hs : ∀ T H X T' H', step T H = some (X, T', H') → T'.n = T.n ∧ H.next ≤ H'.next) : ∀ (k : Nat) (T : Fr) (H : AH) X T' H', iter step k T H = some (X, T', H') → T'.n = T.n ∧ H.next ≤ H'.next
  | 0, T, H, X, T', H', e => by simp [iter] at e
  | k + 1, T, H, X, T', H', e => by
    rw [iter] at e
    split at e
    · rename_i T1 H1 h1
      obtain ⟨a, b⟩ := hs _ _ _ _ _ h1
      obtain ⟨c, d⟩ := iter_mono hs k _ _ _ _ _ e
      exact ⟨c.trans a, Nat.le_trans b d⟩
    · exact hs _ _ _ _ _ e
theorem code_mono (hx : ∀ g as H v H', cf g as H = some (v, H') → H.next ≤ H'.next) (L : Nat) : ∀ (c : Code) (T : Fr) (H : AH) X T' H', code P cf L c T H = some (X, T', H') → T'.n = T.n ∧ H.next ≤ H'.next
  | .skip, T, H, X, T', H', e => by rw [code] at e; obtain ⟨_, rfl, rfl⟩ := out3 e; exact ⟨rfl, Nat.le_refl _⟩
  | .region _ ops false, T, H, X, T', H', e => by
    rw [code] at e
    split at e
    · rename_i T1 H1 h1
      obtain ⟨_, rfl, rfl⟩ := out3 e
      exact doOps_mono hx _ _ _ _ _ h1
    · cases e
  | .region _ ops true, T, H, X, T', H', e => by
    rw [code] at e
    split at e
    · rename_i T1 H1 h1
      obtain ⟨_, rfl, rfl⟩ := out3 e
      exact doOps_mono hx _ _ _ _ _ (draw_ops h1)
    · cases e
  | .seq a b, T, H, X, T', H', e => by
    rw [code] at e
    split at e
    · rename_i T1 H1 h1
      obtain ⟨p, q⟩ := code_mono hx L a _ _ _ _ _ h1
      obtain ⟨r, s⟩ := code_mono hx L b _ _ _ _ _ e
      exact ⟨r.trans p, Nat.le_trans q s⟩
    · exact code_mono hx L a _ _ _ _ _ e
  | .cond c a b, T, H, X, T', H', e => by
    rw [code] at e
    split at e
    · exact code_mono hx L a _ _ _ _ _ e
    · exact code_mono hx L b _ _ _ _ _ e
    · cases e
  | .block id b, T, H, X, T', H', e => by
    rw [code] at e
    split at e
    · rename_i i T1 H1 h1
      have := code_mono hx L b _ _ _ _ _ h1
      split at e
      · obtain ⟨_, rfl, rfl⟩ := out3 e; exact this
      · obtain ⟨_, rfl, rfl⟩ := out3 e; exact this
    · exact code_mono hx L b _ _ _ _ _ e
  | .loop b, T, H, X, T', H', e => by
    rw [code] at e
    exact iter_mono (fun T H X T' H' h => code_mono hx L b T H X T' H' h) L T H X T' H' e
  | .exit id, T, H, X, T', H', e => by rw [code] at e; obtain ⟨_, rfl, rfl⟩ := out3 e; exact ⟨rfl, Nat.le_refl _⟩
  | .ret, T, H, X, T', H', e => by rw [code] at e; obtain ⟨_, rfl, rfl⟩ := out3 e; exact ⟨rfl, Nat.le_refl _⟩
  | .rangeFunc _ _ _ _, T, H, X, T', H', e => by simp [code] at e
  | .scope _, T, H, X, T', H', e => by simp [code] at e
  | .label _, T, H, X, T', H', e => by simp [code] at e
  | .goto _, T, H, X, T', H', e => by simp [code] at e
  | .refuse _, T, H, X, T', H', e => by simp [code] at e
/-- What a text tells. -/
def Walks (P : Program) (c : Code) (φ : Ph) (H : AH) (w : World) (B : Nat) (a : Act) (X : AX) (T' : Fr) (H' : AH) : Prop :=
  ∀ Q : Exit → Act → World → Prop, Post φ H w B a T' H' (Q (exitOf X)) → c.wp P Q a w
theorem Post.trans {φ φ1 : Ph} {H H1 H' : AH} {w w1 : World} {B : Nat} {a a1 : Act} {T' : Fr} {K : Act → World → Prop} (h : Post φ H w B a T' H' K) (k3 : Ext φ φ1 H H1) (k4 : Below B w w1) (k5 : a1.defers = a.defers) : Post φ1 H1 w1 B a1 T' H' K :=
  fun φ' a' w' r1 r2 r3 r4 r5 => h φ' a' w' r1 r2 (k3.trans r3) (k4.trans r4) (r5.trans k5)
theorem code_ok [MethsOk P] (hc : Sims P cf) (hm : P.follows .mixedOrders = true) (L : Nat) : ∀ (c : Code) (T : Fr) (H : AH) X T' H' (φ : Ph) (a : Act) (w : World) (B : Nat), T.n ≤ 1000000 → Evals φ T a → HR φ H w B → code P cf L c T H = some (X, T', H') → Walks P c φ H w B a X T' H'
  | .skip, T, H, X, T', H', φ, a, w, B, hn, h, hH, e => fun Q hK => by
    rw [code] at e; obtain ⟨rfl, rfl, rfl⟩ := out3 e
    exact wp_skip (hK φ a w h hH (Ext.refl _ _) (Below.refl _ _) rfl)
  | .region id ops false, T, H, X, T', H', φ, a, w, B, hn, h, hH, e => fun Q hK => by
    rw [code] at e
    split at e
    · rename_i T1 H1 h1
      obtain ⟨rfl, rfl, rfl⟩ := out3 e
      exact region_seq hc hn h hH h1 hK
    · cases e
  | .region id ops true, T, H, X, T', H', φ, a, w, B, hn, h, hH, e => fun Q hK => by
    rw [code] at e
    split at e
    · rename_i T1 H1 h1
      obtain ⟨rfl, rfl, rfl⟩ := out3 e
      exact region_draw hc hm hn h hH h1 hK
    · cases e
  | .seq x y, T, H, X, T', H', φ, a, w, B, hn, h, hH, e => fun Q hK => by
    rw [code] at e
    split at e
    · rename_i T1 H1 h1
      refine wp_seq (code_ok hc hm L x _ _ _ _ _ φ a w B hn h hH h1 _ fun φ1 a1 w1 r1 r2 r3 r4 r5 => ?_)
      exact code_ok hc hm L y _ _ _ _ _ φ1 a1 w1 B (by rw [(code_mono hc.nx L x _ _ _ _ _ h1).1]; exact hn) r1 r2 e Q (hK.trans r3 r4 r5)
    · rename_i hne
      refine wp_seq (code_ok hc hm L x _ _ _ _ _ φ a w B hn h hH e _ fun φ1 a1 w1 r1 r2 r3 r4 r5 => ?_)
      cases X with
      | nrm => exact (hne _ _ e).elim
      | ex id => exact hK φ1 a1 w1 r1 r2 r3 r4 r5
      | ret => exact hK φ1 a1 w1 r1 r2 r3 r4 r5
  | .cond c x y, T, H, X, T', H', φ, a, w, B, hn, h, hH, e => fun Q hK => by
    rw [code] at e
    split at e
    · rename_i hv
      have := ev_rel h hv
      rw [VR] at this
      exact wp_cond_true this (code_ok hc hm L x _ _ _ _ _ φ a w B hn h hH e Q hK)
    · rename_i hv
      have := ev_rel h hv
      rw [VR] at this
      exact wp_cond_false this (code_ok hc hm L y _ _ _ _ _ φ a w B hn h hH e Q hK)
    · cases e
  | .block id b, T, H, X, T', H', φ, a, w, B, hn, h, hH, e => fun Q hK => by
    rw [code] at e
    split at e
    · rename_i i T1 H1 h1
      split at e
      · rename_i hi
        obtain ⟨rfl, rfl, rfl⟩ := out3 e
        refine wp_block (code_ok hc hm L b _ _ _ _ _ φ a w B hn h hH h1 _ fun φ1 a1 w1 r1 r2 r3 r4 r5 => ?_)
        show (if i = id then Q .normal a1 w1 else Q (.exit i) a1 w1)
        rw [if_pos hi]; exact hK φ1 a1 w1 r1 r2 r3 r4 r5
      · rename_i hi
        obtain ⟨rfl, rfl, rfl⟩ := out3 e
        refine wp_block (code_ok hc hm L b _ _ _ _ _ φ a w B hn h hH h1 _ fun φ1 a1 w1 r1 r2 r3 r4 r5 => ?_)
        show (if i = id then Q .normal a1 w1 else Q (.exit i) a1 w1)
        rw [if_neg hi]; exact hK φ1 a1 w1 r1 r2 r3 r4 r5
    · rename_i hne
      refine wp_block (code_ok hc hm L b _ _ _ _ _ φ a w B hn h hH e _ fun φ1 a1 w1 r1 r2 r3 r4 r5 => ?_)
      cases X with
      | nrm => exact hK φ1 a1 w1 r1 r2 r3 r4 r5
      | ex i => exact (hne _ _ _ e).elim
      | ret => exact hK φ1 a1 w1 r1 r2 r3 r4 r5
  | .loop b, T, H, X, T', H', φ, a, w, B, hn, h, hH, e => fun Q hK => by
    rw [code] at e
    refine wp_loop_rounds L ?_
    have key : ∀ (k : Nat) (T : Fr) (H : AH) (φ : Ph) (a : Act) (w : World), T.n ≤ 1000000 → Evals φ T a → HR φ H w B → iter (code P cf L b) k T H = some (X, T', H') → Post φ H w B a T' H' (Q (exitOf X)) → Code.rounds P b Q k a w := by
      intro k
      induction k with
      | zero => intro T H φ a w _ _ _ e; simp [iter] at e
      | succ k ih =>
        intro T H φ a w hn h hH e hK
        rw [rounds_succ]
        rw [iter] at e
        split at e
        · rename_i T1 H1 h1
          refine code_ok hc hm L b _ _ _ _ _ φ a w B hn h hH h1 _ fun φ1 a1 w1 r1 r2 r3 r4 r5 => ?_
          exact ih T1 H1 φ1 a1 w1 (by rw [(code_mono hc.nx L b _ _ _ _ _ h1).1]; exact hn) r1 r2 e (hK.trans r3 r4 r5)
        · rename_i hne
          refine code_ok hc hm L b _ _ _ _ _ φ a w B hn h hH e _ fun φ1 a1 w1 r1 r2 r3 r4 r5 => ?_
          cases X with
          | nrm => exact (hne _ _ e).elim
          | ex i => exact hK φ1 a1 w1 r1 r2 r3 r4 r5
          | ret => exact hK φ1 a1 w1 r1 r2 r3 r4 r5
    exact key L T H φ a w hn h hH e hK
  | .exit id, T, H, X, T', H', φ, a, w, B, hn, h, hH, e => fun Q hK => by
    rw [code] at e; obtain ⟨rfl, rfl, rfl⟩ := out3 e
    exact wp_exit (hK φ a w h hH (Ext.refl _ _) (Below.refl _ _) rfl)
  | .ret, T, H, X, T', H', φ, a, w, B, hn, h, hH, e => fun Q hK => by
    rw [code] at e; obtain ⟨rfl, rfl, rfl⟩ := out3 e
    exact wp_ret (hK φ a w h hH (Ext.refl _ _) (Below.refl _ _) rfl)
  | .rangeFunc _ _ _ _, T, H, X, T', H', φ, a, w, B, hn, h, hH, e => by simp [code] at e
  | .scope _, T, H, X, T', H', φ, a, w, B, hn, h, hH, e => by simp [code] at e
  | .label _, T, H, X, T', H', φ, a, w, B, hn, h, hH, e => by simp [code] at e
  | .goto _, T, H, X, T', H', φ, a, w, B, hn, h, hH, e => by simp [code] at e
  | .refuse _, T, H, X, T', H', φ, a, w, B, hn, h, hH, e => by simp [code] at e
theorem res_ok {φ : Ph} {T : Fr} {H : AH} {a : Act} {w : World} {B : Nat} (h : Evals φ T a) (hH : HR φ H w B) : ∀ (rs : List ResultVar) {vs : List AV}, resV P T H rs = some vs →
    ∃ us : List Value, (∀ f : ResultVar → Sem Value, (∀ t, f (.tmp t) = pure (a.tmps.getD t undef)) → (∀ x t, f (.cell x t) = (do loadVar t (← asAddr (a.tmps.getD x undef)))) → (rs.mapM f).run P w = .ok us w) ∧ VRs φ vs us
  | [], vs, e => by rw [resV] at e; obtain rfl := Option.some.inj e; exact ⟨[], fun _ _ _ => rfl, trivial⟩
  | .tmp t :: rs, vs, e => by
    rw [resV] at e
    obtain ⟨vs', h1, rfl⟩ := Option.map_eq_some_iff.1 e
    obtain ⟨us, u1, u2⟩ := res_ok h hH rs h1
    refine ⟨a.tmps.getD t undef :: us, fun f f1 f2 => ?_, h.2 t, u2⟩
    rw [List.mapM_cons, f1, Sem.run_bind, Sem.run_pure, Result.andThen_ok, Sem.run_bind, u1 f f1 f2, Result.andThen_ok]; rfl
  | .cell x t :: rs, vs, e => by
    rw [resV] at e
    split at e
    · rename_i pl hpl
      split at e
      · rename_i v vs' h1 h2
        obtain rfl := Option.some.inj e
        obtain ⟨us, u1, u2⟩ := res_ok h hH rs h2
        have hp := h.2 x
        rw [hpl] at hp
        obtain ⟨L, x1, x2, hv⟩ := hp
        obtain ⟨u, k1, k2⟩ := hH.loadV (P := P) x1 x2 h1
        refine ⟨u :: us, fun f f1 f2 => ?_, k2, u2⟩
        have hr : ((do loadVar t (← asAddr (a.tmps.getD x undef)) : Sem Value)).run P w = .ok u w := by
          rw [hv]; exact k1
        rw [List.mapM_cons, f2, Sem.run_bind, hr, Result.andThen_ok, Sem.run_bind, u1 f f1 f2, Result.andThen_ok]; rfl
      · cases e
    · cases e
theorem sims_step (P : Program) [MethsOk P] (hm : P.follows .mixedOrders = true) (L : Nat) {cf : Nat → List AV → AH → Option (AV × AH)} (hd : Sims P cf) : Sims P (step P L cf) := by
    refine ⟨fun g as H v H' e => ?_, fun g as H r e => ?_, fun g as H v H' e φ B vs w hH hr => ?_⟩
    · unfold step at e
      split at e
      · split at e
        · split at e
          · cases e
          · split at e
            · cases e
            · rename_i X T H1 hne h1
              have := (code_mono hd.nx L _ _ _ _ _ _ h1).2
              split at e
              · obtain ⟨_, rfl⟩ := Prod.mk.inj (Option.some.inj e); exact this
              · obtain ⟨_, rfl⟩ := Prod.mk.inj (Option.some.inj e); exact this
              · cases e
            · cases e
        · cases e
      · cases e
    · unfold step at e
      split at e
      · rename_i fn hf
        split at e
        · rename_i c hb
          split at e
          · cases e
          · rename_i hno
            simp only [not_or] at hno
            exact ⟨fn, hf, by rw [hb]; rfl, by simpa using hno.2.2⟩
        · cases e
      · cases e
    · unfold step at e
      split at e
      · rename_i fn hf
        split at e
        · rename_i c hb
          split at e
          · cases e
          · rename_i hno
            simp only [not_or] at hno
            obtain ⟨n1, n2, n3⟩ := hno
            have hlen := hr.length
            split at e
            · cases e
            · rename_i X T H1 hne h1
              refine calls_of_wp hf hb ?_
              have hE : Evals φ ⟨setFrom .nil 0 as, fn.ntmps⟩ { tmps := (⟨vs⟩ : Array Value) ++ Array.replicate (fn.ntmps - (⟨vs⟩ : Array Value).size) undef, defers := [] } := by
                refine ⟨?_, fun t => ?_⟩
                · show fn.ntmps = ((⟨vs⟩ : Array Value) ++ Array.replicate (fn.ntmps - vs.length) undef).size
                  rw [Array.size_append, Array.size_replicate]
                  show fn.ntmps = vs.length + _
                  omega
                · show VR φ (((setFrom .nil 0 as).get t).getD .undef) _
                  rw [setFrom_get as .nil 0 t (by omega)]
                  by_cases q : t < as.length
                  · rw [if_pos (by omega)]
                    have hx : as[t]? = some as[t] := List.getElem?_eq_getElem q
                    obtain ⟨u, u1, u2⟩ := hr.get hx
                    rw [Nat.sub_zero, hx]
                    have e3 : ((⟨vs⟩ : Array Value) ++ Array.replicate (fn.ntmps - (⟨vs⟩ : Array Value).size) undef)[t]? = some u := by
                      rw [Array.getElem?_append_left (by show t < vs.length; omega)]
                      simpa using u1
                    rw [Array.getD_eq_getD_getElem?, e3]
                    exact u2
                  · rw [if_neg (by omega), Tr.get_nil]; trivial
              refine code_ok hd hm L c _ _ _ _ _ φ _ w B (by show fn.ntmps ≤ _; omega) hE hH h1 _ fun φ1 a1 w1 r1 r2 r3 r4 r5 => ?_
              have hfin : a1.defers = [] ∧ ∃ u, (results fn a1.tmps).run P w1 = .ok u w1 ∧ ∃ u' φ', Ending.returned u = .returned u' ∧ VR φ' v u' ∧ HR φ' H' w1 B ∧ Ext φ φ' H H' ∧ Below B w w1 := by
                refine ⟨r5, ?_⟩
                have hres : ∀ rvs, resV P T H1 fn.results.toList = some rvs → ∃ us : List Value, VRs φ1 rvs us ∧ (results fn a1.tmps).run P w1 = .ok (match us with | [u] => u | us => .tuple ⟨us⟩) w1 := by
                  intro rvs hv
                  obtain ⟨us, u1, u2⟩ := res_ok (P := P) r1 r2 _ hv
                  refine ⟨us, u2, ?_⟩
                  unfold results
                  rw [Array.mapM_eq_mapM_toList]
                  have u0 := fun f => u1 f
                  simp only [map_eq_pure_bind, bind_assoc, pure_bind, Sem.run_bind]
                  rw [u1 _ (fun _ => rfl) (fun _ _ => rfl)]
                  simp only [Result.andThen_ok]
                  cases us with
                  | nil => rfl
                  | cons u us => cases us with
                    | nil => rfl
                    | cons u2 us => simp
                split at e
                · rename_i v1 hv
                  obtain ⟨rfl, rfl⟩ := Prod.mk.inj (Option.some.inj e)
                  obtain ⟨us, q1, q2⟩ := hres _ hv
                  match us, q1, q2 with
                  | [u], ⟨q1, _⟩, q2 => exact ⟨u, q2, u, φ1, rfl, q1, r2, r3, r4⟩
                · rename_i vs1 hne1 hv
                  obtain ⟨rfl, rfl⟩ := Prod.mk.inj (Option.some.inj e)
                  obtain ⟨us, q1, q2⟩ := hres _ hv
                  refine ⟨.tuple ⟨us⟩, ?_, .tuple ⟨us⟩, φ1, rfl, ⟨us, rfl, q1⟩, r2, r3, r4⟩
                  rw [q2]
                  match us, q1 with
                  | [], _ => rfl
                  | [u], q1 =>
                    match vs1, q1 with
                    | [x], _ => exact (hne1 x rfl).elim
                  | _ :: _ :: _, _ => rfl
                · cases e
              obtain ⟨f1, u, f2, f3⟩ := hfin
              cases X with
              | nrm => exact ⟨f1, u, f2, f3⟩
              | ret => exact ⟨f1, u, f2, f3⟩
              | ex id => exact (hne id rfl).elim
            · cases e
        · cases e
      · cases e
theorem sims_none (P : Program) : Sims P fun _ _ _ => none :=
  ⟨(fun g as H v H' e => by cases e), (fun g as H r e => by cases e), (fun g as H v H' e => by cases e)⟩
theorem sims_over {P : Program} {O C : Nat → List AV → AH → Option (AV × AH)} (hO : Sims P O) (hC : Sims P C) : Sims P (over O C) := by
  refine ⟨fun g as H v H' e => ?_, fun g as H r e => ?_, fun g as H v H' e => ?_⟩
  · unfold over at e
    split at e
    · rename_i r h; obtain rfl := Option.some.inj e; exact hO.nx _ _ _ _ _ h
    · exact hC.nx _ _ _ _ _ e
  · unfold over at e
    split at e
    · rename_i r h; exact hO.fn _ _ _ _ h
    · exact hC.fn _ _ _ _ e
  · unfold over at e
    split at e
    · rename_i r h; obtain rfl := Option.some.inj e; exact hO.ok _ _ _ _ _ h
    · exact hC.ok _ _ _ _ _ e
theorem sims_callO (P : Program) [MethsOk P] (hm : P.follows .mixedOrders = true) (L : Nat) {O : Nat → List AV → AH → Option (AV × AH)} (hO : Sims P O) : ∀ d, Sims P (callO P O L d)
  | 0 => hO
  | d + 1 => sims_over hO (sims_step P hm L (sims_callO P hm L hO d))
theorem sims_call (P : Program) [MethsOk P] (hm : P.follows .mixedOrders = true) (L d : Nat) : Sims P (call P L d) := sims_callO P hm L (sims_none P) d
/-- It told true. -/
def told : Option (AV × AH) → Bool
  | some (.b true, _) => true
  | _ => false
/-- A closed sentence, where O tells what some calls do: what the second reading tells of it holds, whatever the world. -/
theorem closed_okO (P : Program) [MethsOk P] (hm : P.follows .mixedOrders = true) {O : Nat → List AV → AH → Option (AV × AH)} (hO : Sims P O) (L d g : Nat) (h : told (callO P O L d g [] ⟨.nil, 0⟩) = true) (w : World) (hw : GoodW w.heap.size w) :
    Calls P g #[] w fun e w' => e = .returned (.bool true) ∧ Below w.heap.size w w' := by
  unfold told at h
  split at h
  · rename_i H' e
    refine ((sims_callO P hm L hO d).ok g [] ⟨.nil, 0⟩ (.b true) H' e (fun _ _ => none) w.heap.size [] w ⟨⟨w, hw, fun _ _ => rfl⟩, Nat.le_refl _, (fun _ _ _ e => by cases e), (fun _ _ _ _ _ _ e => by cases e), by decide, (fun _ _ _ e => by cases e)⟩ trivial).mono fun e w' hr => ?_
    obtain ⟨u, φ', rfl, h1, _, _, h2⟩ := hr
    rw [VR] at h1
    subst h1
    exact ⟨rfl, h2⟩
  · cases h
theorem closed_ok (P : Program) [MethsOk P] (hm : P.follows .mixedOrders = true) (L d g : Nat) (h : told (call P L d g [] ⟨.nil, 0⟩) = true) (w : World) (hw : GoodW w.heap.size w) :
    Calls P g #[] w fun e w' => e = .returned (.bool true) ∧ Below w.heap.size w w' := closed_okO P hm (sims_none P) L d g h w hw
end
end Go.Proofs.Ytjhijcehcklipaa.Ev
