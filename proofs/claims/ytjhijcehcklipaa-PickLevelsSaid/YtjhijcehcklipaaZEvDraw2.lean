/-
  A region whose order is open: the proof for any order.
-/
import Derived.Test.YtjhijcehcklipaaZEvDraw
set_option linter.unusedVariables false
set_option linter.unusedSimpArgs false
namespace Go.Proofs.Ytjhijcehcklipaa.Ev
open Go.RowKit (Below)

section
variable {P : Program} {ops : Array Oper} {cf : Nat → List AV → AH → Option (AV × AH)} {TS : Nat → Fr} {HS : Nat → AH}
theorem write_nx {H H' : AH} {a : Pl} {cs : List AV} (h : H.write a cs = some H') : H'.next = H.next := by
  unfold AH.write at h
  split at h
  · split at h
    · obtain rfl := Option.some.inj h; rfl
    · cases h
  · cases h
  · cases h
theorem grow_nx {H H' : AH} {a : Pl} {len z v : Nat} {cs : List AV} (h : H.grow a len cs z = some (v, H')) : H'.next = H.next := by
  unfold AH.grow at h
  split at h
  · split at h
    · obtain ⟨_, rfl⟩ := Prod.mk.inj (Option.some.inj h); rfl
    · cases h
  · cases h
  · cases h
theorem append_nx {H H' : AH} {ts : Array TypeId} {s x v : AV} (h : appendA P ts s x H = some (v, H')) : H.next ≤ H'.next := by
  unfold appendA at h
  (repeat' split at h) <;> first
    | (cases h; done)
    | (obtain ⟨_, rfl⟩ := Prod.mk.inj (Option.some.inj h); exact Nat.le_refl _)
    | (obtain ⟨_, rfl⟩ := Prod.mk.inj (Option.some.inj h); exact Nat.le_succ _)
    | (obtain ⟨H'', hw, e2⟩ := Option.map_eq_some_iff.1 h; obtain ⟨_, rfl⟩ := Prod.mk.inj e2; exact Nat.le_of_eq (write_nx hw).symm)
    | (obtain ⟨⟨v', H''⟩, hw, e2⟩ := Option.map_eq_some_iff.1 h; obtain ⟨_, rfl⟩ := Prod.mk.inj e2; exact Nat.le_of_eq (grow_nx hw).symm)
theorem opW_nx {T : Fr} {H H' : AH} {o : Op} {v : AV} (h : opW P T H o = some (v, H')) : H.next ≤ H'.next := by
  unfold opW at h
  split at h
  · split at h
    · obtain ⟨H'', hw, e2⟩ := Option.map_eq_some_iff.1 h
      obtain ⟨_, rfl⟩ := Prod.mk.inj e2
      unfold storeV at hw
      split at hw
      · split at hw
        · exact Nat.le_of_eq (write_nx hw).symm
        · cases hw
      · cases hw
    · cases h
  · split at h
    · unfold convW at h
      (repeat' split at h) <;> first
        | (cases h; done)
        | (obtain ⟨_, rfl⟩ := Prod.mk.inj (Option.some.inj h); exact Nat.le_refl _)
    · cases h
  · split at h
    · split at h
      · obtain ⟨_, rfl⟩ := Prod.mk.inj (Option.some.inj h); exact Nat.le_refl _
      · exact append_nx h
    · unfold copyA at h
      (repeat' split at h) <;> first
        | (cases h; done)
        | (obtain ⟨_, rfl⟩ := Prod.mk.inj (Option.some.inj h); exact Nat.le_refl _)
        | (obtain ⟨H'', hw, e2⟩ := Option.map_eq_some_iff.1 h; obtain ⟨_, rfl⟩ := Prod.mk.inj e2; exact Nat.le_of_eq (write_nx hw).symm)
    · unfold clearA at h
      (repeat' split at h) <;> first
        | (cases h; done)
        | (obtain ⟨_, rfl⟩ := Prod.mk.inj (Option.some.inj h); exact Nat.le_refl _)
        | (obtain ⟨H'', hw, e2⟩ := Option.map_eq_some_iff.1 h; obtain ⟨_, rfl⟩ := Prod.mk.inj e2; exact Nat.le_of_eq (write_nx hw).symm)
    · split at h
      · obtain ⟨H'', hw, e2⟩ := Option.map_eq_some_iff.1 h
        obtain ⟨_, rfl⟩ := Prod.mk.inj e2
        unfold delA at hw
        (repeat' split at hw) <;> first
          | (cases hw; done)
          | (obtain rfl := Option.some.inj hw; exact Nat.le_refl _)
      · cases h
    · cases h
  · split at h
    · obtain ⟨H'', hw, e2⟩ := Option.map_eq_some_iff.1 h
      obtain ⟨_, rfl⟩ := Prod.mk.inj e2
      unfold updA at hw
      (repeat' split at hw) <;> first
        | (cases hw; done)
        | (obtain rfl := Option.some.inj hw; exact Nat.le_refl _)
    · cases h
  · unfold mkMap at h
    split at h
    · obtain ⟨_, rfl⟩ := Prod.mk.inj (Option.some.inj h); exact Nat.le_succ _
    · cases h
  · cases h
theorem doOp_nx (hc : Sims P cf) {o : Oper} {T T' : Fr} {H H' : AH} (e : doOp P cf ops o T H = some (T', H')) : H.next ≤ H'.next := by
  unfold doOp at e
  split at e
  · split at e
    · obtain ⟨v, _, h2⟩ := Option.map_eq_some_iff.1 e; obtain ⟨_, rfl⟩ := Prod.mk.inj h2; exact Nat.le_refl _
    · obtain ⟨v, _, h2⟩ := Option.map_eq_some_iff.1 e; obtain ⟨_, rfl⟩ := Prod.mk.inj h2; exact Nat.le_refl _
    · split at e
      · split at e
        · obtain ⟨_, rfl⟩ := Prod.mk.inj (Option.some.inj e); exact Nat.le_succ _
        · cases e
      · cases e
    · obtain ⟨⟨v, H''⟩, h1, h2⟩ := Option.map_eq_some_iff.1 e; obtain ⟨_, rfl⟩ := Prod.mk.inj h2; exact opW_nx h1
    · split at e
      · obtain ⟨⟨v, H''⟩, h1, h2⟩ := Option.map_eq_some_iff.1 e; obtain ⟨_, rfl⟩ := Prod.mk.inj h2; exact hc.nx _ _ _ _ _ h1
      · cases e
    · cases e
  · obtain ⟨_, rfl⟩ := Prod.mk.inj (Option.some.inj e); exact Nat.le_refl _
  · cases e
/-- What is no write leaves the heap, or makes an object. -/
theorem doOp_plain {o : Oper} {T T' : Fr} {H H' : AH} (e : doOp P cf ops o T H = some (T', H')) (hw : isW P o = false) : H' = H ∨ ∃ q, isA P o = true ∧ opA P T o.op = some q ∧ okNew H q.cs = true ∧ H' = H.new q.cs q.z := by
  unfold doOp at e
  unfold isW at hw
  split at e
  · split at e
    · obtain ⟨v, _, h2⟩ := Option.map_eq_some_iff.1 e; obtain ⟨_, rfl⟩ := Prod.mk.inj h2; exact .inl rfl
    · obtain ⟨v, _, h2⟩ := Option.map_eq_some_iff.1 e; obtain ⟨_, rfl⟩ := Prod.mk.inj h2; exact .inl rfl
    · rename_i hk
      split at e
      · rename_i q hq
        split at e
        · rename_i hok
          obtain ⟨_, rfl⟩ := Prod.mk.inj (Option.some.inj e)
          exact .inr ⟨q, by unfold isA; rw [hk], hq, hok, rfl⟩
        · cases e
      · cases e
    · rename_i hk; rw [hk] at hw; cases hw
    · rename_i hk; rw [hk] at hw; cases hw
    · cases e
  · obtain ⟨_, rfl⟩ := Prod.mk.inj (Option.some.inj e); exact .inl rfl
  · cases e
theorem HS_mono (hc : Sims P cf) (R : Run P cf ops TS HS) : ∀ d m, m + d ≤ ops.size → (HS m).next ≤ (HS (m + d)).next
  | 0, m, _ => Nat.le_refl _
  | d + 1, m, h => by
    have h1 := HS_mono hc R d m (by omega)
    have ho : ops[m + d]? = some ops[m + d] := Array.getElem?_eq_getElem (by omega)
    exact Nat.le_trans h1 (doOp_nx hc (R.step _ _ ho))
/-- Over operations that write nothing: the heap has the same objects and more. -/
theorem HS_more (hc : Sims P cf) (R : Run P cf ops TS HS) : ∀ d m, m + d ≤ ops.size → (∀ p x, m ≤ p → p < m + d → ops[p]? = some x → isW P x = false) → (HS m).next < 2000000000 →
    (HS (m + d)).next < 2000000000 ∧ ∀ o, o < (HS m).next → (HS (m + d)).objs.get o = (HS m).objs.get o
  | 0, m, _, _, hx => ⟨hx, fun _ _ => rfl⟩
  | d + 1, m, h, hw, hx => by
    obtain ⟨h1, h2⟩ := HS_more hc R d m (by omega) (fun p x a b => hw p x a (by omega)) hx
    have ho : ops[m + d]? = some ops[m + d] := Array.getElem?_eq_getElem (by omega)
    have hm := HS_mono hc R d m (by omega)
    rcases doOp_plain (R.step _ _ ho) (hw (m + d) _ (by omega) (by omega) ho) with e | ⟨q, _, _, hok, e⟩
    · rw [← Nat.add_assoc, e]; exact ⟨h1, h2⟩
    · obtain ⟨k1, k2⟩ := okNew_spec hok
      rw [← Nat.add_assoc, e]
      refine ⟨by show (HS (m + d)).next + 1 < _; omega, fun o hlt => ?_⟩
      rw [new_get k1, if_neg (by omega)]; exact h2 o hlt
/-- Who makes an object counts one on. -/
theorem alloc_nx (R : Run P cf ops TS HS) {i : Nat} {x : Oper} (hi : ops[i]? = some x) (hia : isA P x = true) (hwi : wants ops (TS i) x = some true) : (HS (i + 1)).next = (HS i).next + 1 := by
  have h6 := R.step i x hi
  unfold doOp at h6
  rw [hwi] at h6
  simp only at h6
  unfold isA at hia
  split at hia
  · rename_i hki
    rw [hki] at h6
    simp only at h6
    split at h6
    · split at h6
      · have h7 := (Prod.mk.inj (Option.some.inj h6)).2
        rw [← h7]; rfl
      · cases h6
    · cases h6
  · cases hia
theorem cnt_set {ls : Array Bool} {j : Nat} (hj : j < ls.size) (h : ls.getD j false = false) : ∀ n, ((List.range n).filter fun i => !(ls.setIfInBounds j true).getD i false).length + (if j < n then 1 else 0) = ((List.range n).filter fun i => !ls.getD i false).length
  | 0 => by simp
  | n + 1 => by
    have ih := cnt_set hj h n
    rw [List.range_succ, List.filter_append, List.filter_append, List.length_append, List.length_append]
    by_cases q : n = j
    · subst q
      have e1 : (ls.setIfInBounds n true).getD n false = true := by simp [hj]
      have f1 : ([n].filter fun i => !(ls.setIfInBounds n true).getD i false).length = 0 := by rw [List.filter_cons, e1]; rfl
      have f2 : ([n].filter fun i => !ls.getD i false).length = 1 := by rw [List.filter_cons, h]; rfl
      rw [if_neg (by omega)] at ih
      rw [f1, f2, if_pos (by omega)]; omega
    · have e1 : (ls.setIfInBounds j true).getD n false = ls.getD n false := getD_set_ne false (fun z => q z.symm)
      have f1 : ([n].filter fun i => !(ls.setIfInBounds j true).getD i false).length = ([n].filter fun i => !ls.getD i false).length := by rw [List.filter_cons, List.filter_cons, e1]; rfl
      rw [f1]
      by_cases hlt : j < n
      · rw [if_pos hlt] at ih; rw [if_pos (by omega)]; omega
      · rw [if_neg hlt] at ih; rw [if_neg (by omega)]; omega
theorem put_same {T : Fr} (hn : T.n ≤ 1000000) {d : Option Nat} {v v' : AV} (h : put T d v = put T d v') : v = v' ∨ ∀ (T1 : Fr) (x y : AV), T1.n = T.n → put T1 d x = put T1 d y := by
  cases d with
  | none => exact .inr fun _ _ _ _ => rfl
  | some t =>
    by_cases ht : t < T.n
    · left
      have e : (put T (some t) v).at t = (put T (some t) v').at t := congrArg (fun z => z.at t) h
      rw [put_at hn, put_at hn, if_pos ⟨rfl, ht⟩, if_pos ⟨rfl, ht⟩] at e
      exact e
    · right
      intro T1 x y h1
      unfold put
      simp only
      rw [h1, if_neg ht, if_neg ht]
theorem cnt_zero {ls : Array Bool} {n : Nat} (h : ((List.range n).filter fun i => !ls.getD i false).length = 0) : ∀ i, i < n → ls.getD i false = true := by
  intro i hi
  have h0 := List.eq_nil_of_length_eq_zero h
  cases q : ls.getD i false with
  | true => rfl
  | false =>
    have : i ∈ (List.range n).filter fun i => !ls.getD i false := by rw [List.mem_filter]; exact ⟨List.mem_range.2 hi, by rw [q]; rfl⟩
    rw [h0] at this; cases this
theorem getD_tt {ls : Array Bool} {j : Nat} (hj : j < ls.size) : ls.getD j true = ls.getD j false := by
  simp [hj]
/-- The next write from j on, or the end. -/
theorem next_w : ∀ (d j : Nat), j + d = ops.size → ∃ k, j ≤ k ∧ k ≤ ops.size ∧ (∀ p x, j ≤ p → p < k → ops[p]? = some x → isW P x = false) ∧ (k = ops.size ∨ ∃ x, ops[k]? = some x ∧ isW P x = true)
  | 0, j, h => ⟨j, Nat.le_refl _, by omega, fun p x a b => by omega, .inl (by omega)⟩
  | d + 1, j, h => by
    have ho : ops[j]? = some ops[j] := Array.getElem?_eq_getElem (by omega)
    by_cases hw : isW P ops[j] = true
    · exact ⟨j, Nat.le_refl _, by omega, fun p x a b => by omega, .inr ⟨_, ho, hw⟩⟩
    · obtain ⟨k, k1, k2, k3, k4⟩ := next_w d (j + 1) (by omega)
      refine ⟨k, by omega, k2, fun p x a b hp => ?_, k4⟩
      by_cases q : p = j
      · subst q; rw [ho] at hp; obtain rfl := Option.some.inj hp; simpa using hw
      · exact k3 p x (by omega) b hp
/-- What holds whatever has been done. -/
structure Inv (P : Program) (ops : Array Oper) (TS : Nat → Fr) (HS : Nat → AH) (φ0 : Ph) (w0 : World) (a0 : Act) (B : Nat) (φ : Ph) (k : Nat) (ls : Array Bool) (a : Act) (w : World) : Prop where
  size : ls.size = ops.size
  closed : ∀ j o, ops[j]? = some o → ls.getD j false = true → ∀ e ∈ o.after, Region.binds .any e = true → ls.getD e.on false = true
  kle : k ≤ ops.size
  below : ∀ p x, ops[p]? = some x → isW P x = true → p < k → ls.getD p false = true
  above : ∀ p x, ops[p]? = some x → isW P x = true → k ≤ p → ls.getD p false = false
  kw : k = ops.size ∨ ∃ x, ops[k]? = some x ∧ isW P x = true
  hr : HR φ (HS k) w B
  fr : Evals φ (TV ops TS ls ops.size) a
  free : ∀ i x, ops[i]? = some x → isA P x = true → wants ops (TS i) x = some true → ls.getD i false = false → ∀ v, φ (HS i).next v = none
  le : Le φ0 φ
  dom : ∀ o v L, φ o v = some L → (∃ v0 L0, φ0 o v0 = some L0) ∨ ((HS 0).next ≤ o ∧ o < (HS ops.size).next)
  bel : Below B w0 w
  defers : a.defers = a0.defers
variable {φ0 : Ph} {w0 : World} {a0 : Act} {B : Nat} {Q : Exit → Act → World → Prop}
theorem draw_any [MethsOk P] (hc : Sims P cf) (R : Run P cf ops TS HS) (hn : (TS 0).n ≤ 1000000) (hK : Post φ0 (HS 0) w0 B a0 (TS ops.size) (HS ops.size) (Q .normal)) :
    ∀ (fuel : Nat) (ls : Array Bool) (a : Act) (w : World) (φ : Ph) (k : Nat), ((List.range ops.size).filter fun i => !ls.getD i false).length = fuel → Inv P ops TS HS φ0 w0 a0 B φ k ls a w → wpAny P .any ops Q fuel ls a w := by
  have fin : ∀ (ls : Array Bool) (a : Act) (w : World) (φ : Ph) (k : Nat), Inv P ops TS HS φ0 w0 a0 B φ k ls a w → (∀ i, i < ops.size → ls.getD i false = true) → Q .normal a w := by
    intro ls a w φ k I hall
    have hk : k = ops.size := by
      rcases I.kw with h | ⟨x, hx, hxw⟩
      · exact h
      · have h1 := I.above k x hx hxw (Nat.le_refl _)
        rw [hall k (Array.getElem?_eq_some_iff.1 hx).1] at h1; cases h1
    subst hk
    have hE : Evals φ (TS ops.size) a := by
      refine ⟨?_, fun t => ?_⟩
      · rw [TS_n R _ (Nat.le_refl _), ← TV_n (ops := ops) ls ops.size]; exact I.fr.1
      · have := I.fr.2 t
        rw [TV_at R hn (Nat.le_refl _) (fun i o hi ho _ => hall i hi) (fun i o hi ho _ => by have := (Array.getElem?_eq_some_iff.1 ho).1; omega)] at this
        exact this
    have hmono := HS_mono hc R ops.size 0 (by omega)
    rw [Nat.zero_add] at hmono
    exact hK φ a w hE I.hr ⟨I.le, I.dom, hmono⟩ I.bel I.defers
  have allOf : ∀ (ls : Array Bool) (a : Act) (w : World) (φ : Ph) (k : Nat), Inv P ops TS HS φ0 w0 a0 B φ k ls a w → Region.ready .any ops ls = [] → ∀ i, i < ops.size → ls.getD i false = true := by
    intro ls a w φ k I hr i
    induction i using Nat.strongRecOn with
    | _ i ih =>
      intro hi
      cases q : ls.getD i false with
      | true => rfl
      | false =>
        have ho : ops[i]? = some ops[i] := Array.getElem?_eq_getElem hi
        have : i ∈ Region.ready .any ops ls := by
          rw [mem_ready]
          refine ⟨by rw [getD_tt (by rw [I.size]; exact hi)]; exact q, _, ho, fun e he hb => ?_⟩
          have hlt := R.edge i _ ho e he hb
          exact ih _ hlt (by omega)
        rw [hr] at this; cases this
  intro fuel
  induction fuel with
  | zero =>
    intro ls a w φ k hcnt I
    have hall := cnt_zero hcnt
    refine ⟨?_, fin ls a w φ k I hall⟩
    rw [List.eq_nil_iff_forall_not_mem]
    intro i hi
    rw [mem_ready] at hi
    obtain ⟨h1, o, ho, _⟩ := hi
    have hlt := (Array.getElem?_eq_some_iff.1 ho).1
    rw [getD_tt (by rw [I.size]; exact hlt), hall i hlt] at h1; cases h1
  | succ fuel ih =>
    intro ls a w φ k hcnt I
    refine ⟨fun hr => fin ls a w φ k I (allOf ls a w φ k I hr), fun j hj => ?_⟩
    rw [mem_ready] at hj
    obtain ⟨hj1, o, ho, hj2⟩ := hj
    have hlt := (Array.getElem?_eq_some_iff.1 ho).1
    have hjf : ls.getD j false = false := by rw [← getD_tt (by rw [I.size]; exact hlt)]; exact hj1
    -- who stands ahead is done
    have hanc : ∀ i, anc ops ops.size j i = true → ls.getD i false = true := fun i hi =>
      anc_in (L := fun i => ls.getD i false = true) I.closed ops.size j i hi fun o' ho' => by rw [ho] at ho'; obtain rfl := Option.some.inj ho'; exact hj2
    have hanc2 : ∀ i x, ops[i]? = some x → anc ops ops.size i j = true → ls.getD i false = false := fun i x hx hi => by
      cases q : ls.getD i false with
      | false => rfl
      | true =>
        have := anc_in (L := fun i => ls.getD i false = true) I.closed ops.size i j hi fun o' ho' => I.closed i o' ho' q
        rw [hjf] at this; cases this
    -- the frame
    have hagree : ∀ t ∈ looks ops o, (TV ops TS ls ops.size).at t = (TS j).at t := fun t ht => by
      refine TV_at R hn (Nat.le_of_lt hlt) (fun i x hi hx hd => ?_) (fun i x hi hx hd => ?_)
      · exact hanc i (R.pair i j x o hi hx ho (.inl (by unfold shares; rw [hit_mem hd (List.mem_append_left _ ht)]; rfl)))
      · by_cases q : i = j
        · subst q; exact hjf
        · exact hanc2 i x hx (R.pair j i o x (by omega) ho hx (.inl (by unfold shares; rw [hit_mem hd ht, Bool.or_true])))
    obtain ⟨hev, hg⟩ := ev_congr hagree
    obtain ⟨c1, c2, c3, c4, c5⟩ := op_congr (P := P) hev
    have hwc := wants_congr hg
    have hstep := R.step j o ho
    have hTn : (TV ops TS ls ops.size).n ≤ 1000000 := by rw [TV_n]; exact hn
    -- the next frame
    have hfr : ∀ (φ' : Ph) (u : Value) (v : AV), VR φ' v u → TS (j + 1) = put (TS j) o.dst v → Le φ φ' → Evals φ' (TV ops TS (ls.setIfInBounds j true) ops.size) (a.put o.dst u) := by
      intro φ' u v hv hT hle
      have hput := (I.fr.mono hle).put hTn o.dst hv
      refine ⟨by rw [TV_n, ← TV_n (ops := ops) (TS := TS) ls ops.size, ← put_n _ o.dst v]; exact hput.1, fun t => ?_⟩
      have h2 := hput.2 t
      have hTSn : (TS j).n = (TS 0).n := TS_n R j (Nat.le_of_lt hlt)
      by_cases hd : o.dst = some t
      · have e1 : (TV ops TS (ls.setIfInBounds j true) ops.size).at t = (TS (j + 1)).at t := by
          refine TV_at R hn hlt (fun i x hi hx hd' => ?_) (fun i x hi hx hd' => ?_)
          · by_cases q : i = j
            · subst q; simp [show i < ls.size by rw [I.size]; exact hlt]
            · rw [getD_set_ne false (fun z => q z.symm)]
              exact hanc i (R.pair i j x o (by omega) hx ho (.inl (by unfold shares; rw [hit_mem hd' (List.mem_append_right _ (by rw [hd]; simp))]; rfl)))
          · rw [getD_set_ne false (by omega)]
            exact hanc2 i x hx (R.pair j i o x (by omega) ho hx (.inl (by unfold shares; rw [hit_mem hd (List.mem_append_right _ (by rw [hd']; simp))]; rfl)))
        rw [e1, hT, put_at (by rw [hTSn]; exact hn)]
        rw [put_at hTn] at h2
        by_cases ht : t < (TS 0).n
        · rw [if_pos ⟨hd, by rw [TV_n]; exact ht⟩] at h2
          rw [if_pos ⟨hd, by rw [hTSn]; exact ht⟩]; exact h2
        · rw [if_neg (by intro z; have := z.2; rw [TV_n] at this; exact ht this)] at h2
          rw [if_neg (by intro z; have := z.2; rw [hTSn] at this; exact ht this)]
          have e2 : (TS j).at t = (TV ops TS ls ops.size).at t := by
            refine (TV_at R hn (Nat.le_of_lt hlt) (fun i x hi hx hd' => ?_) (fun i x hi hx hd' => ?_)).symm
            · exact hanc i (R.pair i j x o hi hx ho (.inl (by unfold shares; rw [hit_mem hd' (List.mem_append_right _ (by rw [hd]; simp))]; rfl)))
            · by_cases q : i = j
              · subst q; exact hjf
              · exact hanc2 i x hx (R.pair j i o x (by omega) ho hx (.inl (by unfold shares; rw [hit_mem hd (List.mem_append_right _ (by rw [hd']; simp))]; rfl)))
          rw [e2]; exact h2
      · have e1 : ∀ m, (TV ops TS (ls.setIfInBounds j true) m).at t = (TV ops TS ls m).at t := by
          intro m
          induction m with
          | zero => rfl
          | succ m ihm =>
            rw [TV, TV]
            cases hom : ops[m]? with
            | none => exact ihm
            | some x =>
              simp only
              have hT1 : (TV ops TS (ls.setIfInBounds j true) m).n ≤ 1000000 := by rw [TV_n]; exact hn
              have hT2 : (TV ops TS ls m).n ≤ 1000000 := by rw [TV_n]; exact hn
              by_cases q : m = j
              · subst q
                rw [ho] at hom; obtain rfl := Option.some.inj hom
                rw [if_pos (by simp [show m < ls.size by rw [I.size]; exact hlt]), if_neg (by rw [hjf]; exact Bool.false_ne_true), put_at hT1, if_neg (by intro z; exact hd z.1)]
                exact ihm
              · rw [getD_set_ne false (fun z => q z.symm)]
                split
                · rw [put_at hT1, put_at hT2, ihm, TV_n, TV_n]
                · exact ihm
        rw [e1]
        rw [put_at hTn, if_neg (by intro z; exact hd z.1)] at h2
        exact h2
    have hcnt' : ((List.range ops.size).filter fun i => !(ls.setIfInBounds j true).getD i false).length = fuel := by
      have := cnt_set (ls := ls) (j := j) (by rw [I.size]; exact hlt) hjf ops.size
      rw [if_pos hlt, hcnt] at this; omega
    have hset : ∀ i, (ls.setIfInBounds j true).getD i false = false ↔ i ≠ j ∧ ls.getD i false = false := by
      intro i
      by_cases q : i = j
      · subst q; simp [show i < ls.size by rw [I.size]; exact hlt]
      · rw [getD_set_ne false (fun z => q z.symm)]; simp [q]
    have hclosed : ∀ j' o', ops[j']? = some o' → (ls.setIfInBounds j true).getD j' false = true → ∀ e ∈ o'.after, Region.binds .any e = true → (ls.setIfInBounds j true).getD e.on false = true := by
      intro j' o' ho' hl e he hb
      apply getD_set_true
      by_cases q : j' = j
      · subst q; rw [ho] at ho'; obtain rfl := Option.some.inj ho'; exact hj2 e he hb
      · rw [getD_set_ne false (fun z => q z.symm)] at hl; exact I.closed j' o' ho' hl e he hb
    have hmono0 : ∀ m, m ≤ ops.size → (HS 0).next ≤ (HS m).next := fun m hm => by have := HS_mono hc R m 0 (by omega); rwa [Nat.zero_add] at this
    have hmonoN : ∀ m, m ≤ ops.size → (HS m).next ≤ (HS ops.size).next := fun m hm => by have := HS_mono hc R (ops.size - m) m (by omega); rwa [show m + (ops.size - m) = ops.size by omega] at this
    by_cases hjw : isW P o = true
    · -- a write: it is the next one
      have hjk : j = k := by
        rcases Nat.lt_trichotomy j k with h | h | h
        · have := I.below j o ho hjw h; rw [hjf] at this; cases this
        · exact h
        · rcases I.kw with h2 | ⟨x, hx, hxw⟩
          · omega
          · have h3 := hanc k (R.pair k j x o h hx ho (.inr (.inl ⟨hxw, hjw⟩)))
            rw [I.above k x hx hxw (Nat.le_refl _)] at h3; cases h3
      subst hjk
      -- the step, over the listed frame
      have key : ∃ T'', doOp P cf ops o (TV ops TS ls ops.size) (HS j) = some (T'', HS (j + 1)) ∧ ∀ v, T'' = put (TV ops TS ls ops.size) o.dst v → ∃ v', (TS (j + 1) = put (TS j) o.dst v') ∧ T'' = put (TV ops TS ls ops.size) o.dst v' := by
        unfold doOp at hstep ⊢
        rw [hwc]
        split at hstep
        · rename_i hw
          unfold isW at hjw
          split at hstep
          · rename_i hk; rw [hk] at hjw; cases hjw
          · rename_i hk; rw [hk] at hjw; cases hjw
          · rename_i hk; rw [hk] at hjw; cases hjw
          · obtain ⟨⟨v, H'⟩, h1, h2⟩ := Option.map_eq_some_iff.1 hstep
            obtain ⟨h3, h4⟩ := Prod.mk.inj h2
            rw [c4, h1]
            exact ⟨put (TV ops TS ls ops.size) o.dst v, congrArg some (Prod.ext rfl h4), fun _ _ => ⟨v, h3.symm, rfl⟩⟩
          · split at hstep
            · rename_i g as h1
              obtain ⟨⟨v, H'⟩, h2, h3⟩ := Option.map_eq_some_iff.1 hstep
              obtain ⟨h4, h5⟩ := Prod.mk.inj h3
              rw [c5, h1]
              simp only
              rw [h2]
              exact ⟨put (TV ops TS ls ops.size) o.dst v, congrArg some (Prod.ext rfl h5), fun _ _ => ⟨v, h4.symm, rfl⟩⟩
            · cases hstep
          · cases hstep
        · obtain ⟨h3, h4⟩ := Prod.mk.inj (Option.some.inj hstep)
          exact ⟨_, by rw [h4], fun _ _ => ⟨.tup [], h3.symm, rfl⟩⟩
        · cases hstep
      obtain ⟨T'', hd1, hd2⟩ := key
      refine doOp_ok hc ho hTn I.fr I.hr hd1 fun φ' u v w' r1 r2 r3 r4 r5 => ?_
      obtain ⟨k', k1, k2, k3, k4⟩ := next_w (P := P) (ops := ops) (ops.size - (j + 1)) (j + 1) (by omega)
      have hwk : HR φ' (HS k') w' B := by
        obtain ⟨m1, m2⟩ := HS_more hc R (k' - (j + 1)) (j + 1) (by omega) (fun p x h1 h2 => k3 p x h1 (by omega)) r3.nx
        have hm := HS_mono hc R (k' - (j + 1)) (j + 1) (by omega)
        rw [show j + 1 + (k' - (j + 1)) = k' by omega] at m1 m2 hm
        exact r3.more hm m1 m2
      -- the value that was put
      have hv : ∃ v', TS (j + 1) = put (TS j) o.dst v' ∧ VR φ' v' u := by
        obtain ⟨v', e1, e2⟩ := hd2 v r2
        rcases put_same hTn (r2.symm.trans e2) with h | h
        · exact ⟨v', e1, h ▸ r1⟩
        · exact ⟨v, e1.trans (h (TS j) v' v (by rw [TS_n R j (Nat.le_of_lt hlt), TV_n])), r1⟩
      obtain ⟨v', hv1, hv2⟩ := hv
      refine ih _ _ _ φ' k' hcnt' ⟨by rw [Array.size_setIfInBounds]; exact I.size, hclosed, k2, fun p x hp hpw hlt' => ?_, fun p x hp hpw hle => ?_, k4, hwk, hfr φ' u v' hv2 hv1 r4.le, fun i x hi hia hwi hl v'' => ?_, I.le.trans r4.le, fun ob vv L e => ?_, I.bel.trans r5, (put_defers _ _ _).trans I.defers⟩
      · by_cases q : p = j
        · subst q; simp [show p < ls.size by rw [I.size]; exact hlt]
        · rw [getD_set_ne false (fun z => q z.symm)]
          by_cases q2 : p < j
          · exact I.below p x hp hpw q2
          · have := k3 p x (by omega) hlt' hp; rw [hpw] at this; cases this
      · rw [getD_set_ne false (by omega)]; exact I.above p x hp hpw (by omega)
      · obtain ⟨hne, hl'⟩ := (hset i).1 hl
        have hib := (Array.getElem?_eq_some_iff.1 hi).1
        cases e : φ' (HS i).next v'' with
        | none => rfl
        | some L =>
          rcases r4.dom _ _ _ e with ⟨v0, L0, e0⟩ | ⟨q1, q2⟩
          · rw [I.free i x hi hia hwi hl' v0] at e0; cases e0
          · rcases Nat.lt_trichotomy i j with hij | hij | hij
            · have h1 := HS_mono hc R (j - (i + 1)) (i + 1) (by omega)
              rw [show i + 1 + (j - (i + 1)) = j by omega, alloc_nx R hi hia hwi] at h1
              omega
            · exact absurd hij hne
            · have := HS_mono hc R (i - (j + 1)) (j + 1) (by omega)
              rw [show j + 1 + (i - (j + 1)) = i by omega] at this
              omega
      · rcases r4.dom _ _ _ e with ⟨v0, L0, e0⟩ | ⟨q1, q2⟩
        · exact I.dom _ _ _ e0
        · have h1 := hmono0 j (by omega)
          have h2 := hmonoN (j + 1) (by omega)
          exact .inr ⟨by omega, by omega⟩
    · have hjw' : isW P o = false := by simpa using hjw
      have hjk : j ≠ k := by
        intro h
        rcases I.kw with h2 | ⟨x, hx, hxw⟩
        · omega
        · rw [← h, ho] at hx; obtain rfl := Option.some.inj hx; rw [hjw'] at hxw; cases hxw
      -- what stands behind, whatever the kind
      have nxt : ∀ (φ' : Ph) (u : Value) (v' : AV) (w' : World), VR φ' v' u → TS (j + 1) = put (TS j) o.dst v' → HR φ' (HS k) w' B → Le φ φ' → Below B w w' →
          (∀ ob vv L, φ' ob vv = some L → (∃ v0 L0, φ ob v0 = some L0) ∨ ((HS 0).next ≤ ob ∧ ob < (HS ops.size).next)) → (∀ i x, ops[i]? = some x → isA P x = true → wants ops (TS i) x = some true → i ≠ j → ls.getD i false = false → ∀ v, φ' (HS i).next v = none) →
          wpAny P .any ops Q fuel (ls.setIfInBounds j true) (a.put o.dst u) w' := by
        intro φ' u v' w' h1 h2 h3 h4 h5 h6 h7
        refine ih _ _ _ φ' k hcnt' ⟨by rw [Array.size_setIfInBounds]; exact I.size, hclosed, I.kle, fun p x hp hpw hlt' => ?_, fun p x hp hpw hle => ?_, I.kw, h3, hfr φ' u v' h1 h2 h4, fun i x hi hia hwi hl => ?_, I.le.trans h4, fun ob vv L e => ?_, I.bel.trans h5, (put_defers _ _ _).trans I.defers⟩
        · exact getD_set_true (I.below p x hp hpw hlt')
        · have hpj : j ≠ p := fun z => by subst z; rw [ho] at hp; obtain rfl := Option.some.inj hp; rw [hjw'] at hpw; cases hpw
          rw [getD_set_ne false hpj]; exact I.above p x hp hpw hle
        · obtain ⟨q1, q2⟩ := (hset i).1 hl
          exact h7 i x hi hia hwi q1 q2
        · rcases h6 _ _ _ e with ⟨v0, L0, e0⟩ | q
          · exact I.dom _ _ _ e0
          · exact .inr q
      -- a step that leaves the heap of writes as it is
      have still : ∀ v', TS (j + 1) = put (TS j) o.dst v' → doOp P cf ops o (TV ops TS ls ops.size) (HS k) = some (put (TV ops TS ls ops.size) o.dst v', HS k) → wpOp P ops Q j (wpAny P .any ops Q fuel (ls.setIfInBounds j true)) a w := by
        intro v' e1 e2
        refine doOp_ok hc ho hTn I.fr I.hr e2 fun φ' u v w' r1 r2 r3 r4 r5 => ?_
        have hold : ∀ ob vv L, φ' ob vv = some L → ∃ v0 L0, φ ob v0 = some L0 := fun ob vv L e => by
          rcases r4.dom _ _ _ e with z | ⟨q1, q2⟩
          · exact z
          · omega
        have hv : ∃ v'', TS (j + 1) = put (TS j) o.dst v'' ∧ VR φ' v'' u := by
          rcases put_same hTn r2 with h | h
          · exact ⟨v', e1, h ▸ r1⟩
          · exact ⟨v, e1.trans (h (TS j) v' v (by rw [TS_n R j (Nat.le_of_lt hlt), TV_n])), r1⟩
        obtain ⟨v'', k1, k2⟩ := hv
        refine nxt φ' u v'' w' k2 k1 r3 r4.le r5 (fun ob vv L e => .inl (hold ob vv L e)) fun i x hi hia hwi hne hl v => ?_
        cases e : φ' (HS i).next v with
        | none => rfl
        | some L => obtain ⟨v0, L0, e0⟩ := hold _ _ _ e; rw [I.free i x hi hia hwi hl v0] at e0; cases e0
      unfold doOp at hstep
      split at hstep
      · rename_i hw
        split at hstep
        · rename_i hk
          obtain ⟨v, h1, h2⟩ := Option.map_eq_some_iff.1 hstep
          obtain ⟨h3, h4⟩ := Prod.mk.inj h2
          exact still v h3.symm (by unfold doOp; rw [hwc, hw]; simp only; rw [hk]; simp only; rw [c1, h1]; rfl)
        · rename_i hk
          obtain ⟨v, h1, h2⟩ := Option.map_eq_some_iff.1 hstep
          obtain ⟨h3, h4⟩ := Prod.mk.inj h2
          have hrd := R.read j o v ho hk hw h1 k I.kle I.kw fun q x hq hqw => ?_
          · exact still v h3.symm (by unfold doOp; rw [hwc, hw]; simp only; rw [hk]; simp only; rw [c2, hrd]; rfl)
          · by_cases hlq : q < k
            · rw [if_pos hlq]
              cases z : anc ops ops.size q j with
              | false => rfl
              | true => have := hanc2 q x hq z; rw [I.below q x hq hqw hlq] at this; cases this
            · rw [if_neg hlq]
              cases z : anc ops ops.size j q with
              | false => rfl
              | true => have := hanc q z; rw [I.above q x hq hqw (by omega)] at this; cases this
        · rename_i hk
          have hja : isA P o = true := by unfold isA; rw [hk]
          split at hstep
          · rename_i q hq
            split at hstep
            · rename_i hok
              obtain ⟨h3, h4⟩ := Prod.mk.inj (Option.some.inj hstep)
              obtain ⟨n1, n2⟩ := okNew_spec hok
              -- the writes ahead are done, those behind are not
              have hjk2 : j < k := by
                rcases Nat.lt_or_ge j k with h | h
                · exact h
                · rcases I.kw with h5 | ⟨x, hx, hxw⟩
                  · omega
                  · have h6 := hanc k (R.pair k j x o (by omega) hx ho (.inr (.inr ⟨hxw, hja⟩)))
                    rw [I.above k x hx hxw (Nat.le_refl _)] at h6; cases h6
              have hm := HS_mono hc R (k - (j + 1)) (j + 1) (by have := I.kle; omega)
              rw [show j + 1 + (k - (j + 1)) = k by omega] at hm
              have hnx1 : (HS (j + 1)).next = (HS j).next + 1 := by rw [← h4]; rfl
              have hget : (HS k).objs.get (HS j).next = some (.row (setFrom .nil 0 q.cs) q.cs.length 0 q.z) := by
                have hbase : (HS (j + 1)).objs.get (HS j).next = some (.row (setFrom .nil 0 q.cs) q.cs.length 0 q.z) := by rw [← h4, new_get n1, if_pos rfl]
                have hcomp : ∀ q' x, ops[q']? = some x → isW P x = true → if q' < k then anc ops ops.size q' j = false else anc ops ops.size j q' = false := fun q' x hq hqw => by
                  by_cases hlq : q' < k
                  · rw [if_pos hlq]
                    cases z : anc ops ops.size q' j with
                    | false => rfl
                    | true => have := hanc2 q' x hq z; rw [I.below q' x hq hqw hlq] at this; cases this
                  · rw [if_neg hlq]
                    cases z : anc ops ops.size j q' with
                    | false => rfl
                    | true => have := hanc q' z; rw [I.above q' x hq hqw (by omega)] at this; cases this
                rcases R.fresh j o ho hja k I.kle I.kw hcomp _ hbase with hno | h5
                · obtain ⟨m1, m2⟩ := HS_more hc R (k - (j + 1)) (j + 1) (by have := I.kle; omega) (fun p x hp1 hp2 hx => hno p x (by omega) (by omega) hx) (by rw [← h4]; show (HS j).next + 1 < _; omega)
                  rw [show j + 1 + (k - (j + 1)) = k by omega] at m1 m2
                  rw [m2 _ (by omega)]; exact hbase
                · exact h5
              have hfree := I.free j o ho hja hw hjf
              unfold wpOp
              rw [ho]
              simp only
              rw [if_pos (wants_rel I.fr (hwc.trans hw))]
              refine .inl ?_
              obtain ⟨s, s1, w', arr, elem, lo, hi, u, p1, p2, p3, p4, p5, p6, p7, p8⟩ := opA_ok I.fr (c3.trans hq) w n2
              refine wp_val (by rw [s1]; exact run_v p1) ?_
              have hb := I.hr.bind (w' := w') (z := q.z) hget (by omega) hfree n2 p2 p3 p7
              have hle := upd_le (φ := φ) (L := ⟨w.heap.size, 0, arr.size, q.z, 0⟩) (hfree q.cs.length)
              refine nxt _ u _ w' (p8 _ (HS j).next (upd_same _ _ _ _)) h3.symm hb hle ⟨p4, p5, p6, by rw [p2, Array.size_push]; omega, fun kk hkk => ?_⟩ (fun ob vv L e => ?_) fun i x hi hia hwi hne hl v => ?_
              · have := I.hr.base
                rw [p2, Array.getElem?_push, if_neg (by omega)]
              · unfold upd at e
                by_cases z : ob = (HS j).next ∧ vv = q.cs.length
                · have h5 := hmono0 j (Nat.le_of_lt hlt)
                  have h6 := hmonoN (j + 1) hlt
                  exact .inr ⟨by rw [z.1]; exact h5, by rw [z.1]; omega⟩
                · rw [if_neg z] at e; exact .inl ⟨vv, L, e⟩
              · have hib := (Array.getElem?_eq_some_iff.1 hi).1
                have hdiff : (HS i).next ≠ (HS j).next := by
                  rcases Nat.lt_or_ge i j with hij | hij
                  · have h5 := HS_mono hc R (j - (i + 1)) (i + 1) (by omega)
                    rw [show i + 1 + (j - (i + 1)) = j by omega] at h5
                    have h6 := R.step i x hi
                    unfold doOp at h6
                    rw [hwi] at h6
                    simp only at h6
                    unfold isA at hia
                    split at hia
                    · rename_i hki
                      rw [hki] at h6
                      simp only at h6
                      split at h6
                      · split at h6
                        · have h7 := (Prod.mk.inj (Option.some.inj h6)).2
                          have h8 : (HS (i + 1)).next = (HS i).next + 1 := by rw [← h7]; rfl
                          omega
                        · cases h6
                      · cases h6
                    · cases hia
                  · have h5 := HS_mono hc R (i - (j + 1)) (j + 1) (by omega)
                    rw [show j + 1 + (i - (j + 1)) = i by omega] at h5
                    omega
                unfold upd
                rw [if_neg (fun z => hdiff z.1)]
                exact I.free i x hi hia hwi hl v
            · cases hstep
          · cases hstep
        · rename_i hk; unfold isW at hjw'; rw [hk] at hjw'; cases hjw'
        · rename_i hk; unfold isW at hjw'; rw [hk] at hjw'; cases hjw'
        · cases hstep
      · rename_i hw
        obtain ⟨h3, h4⟩ := Prod.mk.inj (Option.some.inj hstep)
        exact still (.tup []) h3.symm (by unfold doOp; rw [hwc, hw])
      · cases hstep
end
end Go.Proofs.Ytjhijcehcklipaa.Ev
