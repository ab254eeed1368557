/-
  What the sum of all files' sizes tells, by a contract of the model's run.
-/
import Derived.Test.YtjhijcehcklipaaDoorEvUsed
import Derived.Test.YtjhijcehcklipaaDoorEvCall
import Derived.Test.YtjhijcehcklipaaDoorEvX
set_option linter.unusedVariables false
set_option linter.unusedSimpArgs false
namespace Go.Proofs.YtjhijcehcklipaaDoor.Ev
open Go.RowKit

theorem HR.later {φ : Ph} {H : AH} {w w' : World} {B : Nat} (h : HR φ H w B) (hb : Below w.heap.size w w') : HR φ H w' B :=
  ⟨Nat.le_trans h.base hb.size, fun o v L e => ⟨(h.low o v L e).1, Nat.lt_of_lt_of_le (h.low o v L e).2 hb.size⟩, h.inj, h.nx, fun o v L e => by
    obtain ⟨ao, h1, h2, h3⟩ := h.ob o v L e
    exact ⟨ao, h1, h2, h3.mono (Le.refl _) (hb.block _ (h.low o v L e).2)⟩⟩
theorem below_low {w w' : World} {B : Nat} (hb : Below w.heap.size w w') (h : B ≤ w.heap.size) : Below B w w' :=
  ⟨hb.os, hb.tape, hb.output, hb.size, fun k hk => hb.block k (by omega)⟩
/-- An object that lies in a block that nothing else lies in. -/
theorem HR.bindAt {φ : Ph} {H H' : AH} {w : World} {B : Nat} (h : HR φ H w B) {ao : AO} {v g z cap : Nat} (hn : H.next < 1000000000) (hH : H' = { objs := H.objs.set deep H.next ao, next := H.next + 1 }) (hg : B ≤ g ∧ g < w.heap.size) (hfree : ∀ o v L, φ o v = some L → L.blk ≠ g)
    (hob : OB (upd φ H.next v ⟨g, 0, cap, z⟩) ao v ⟨g, 0, cap, z⟩ w) : HR (upd φ H.next v ⟨g, 0, cap, z⟩) H' w B ∧ Ext φ (upd φ H.next v ⟨g, 0, cap, z⟩) H H' := by
  subst hH
  have hget : ∀ o, (H.objs.set deep H.next ao).get o = if o = H.next then some ao else H.objs.get o := fun o => Tr.at_set _ _ _ _ (by omega)
  have hle : Le φ (upd φ H.next v ⟨g, 0, cap, z⟩) := upd_le (h.free _)
  refine ⟨⟨h.base, fun o u L e => ?_, fun o1 v1 L1 o2 v2 L2 e1 e2 e => ?_, by show H.next + 1 < _; omega, fun o u L e => ?_⟩, hle, fun o u L e => ?_, Nat.le_succ _⟩
  · unfold upd at e
    by_cases q : o = H.next ∧ u = v
    · rw [if_pos q] at e; obtain rfl := Option.some.inj e; exact ⟨.inl hg.1, hg.2⟩
    · rw [if_neg q] at e; exact ⟨(h.low _ _ _ e).1.imp id fun f => f.get ((hget _).trans (if_neg (by obtain ⟨_, _, k2, _⟩ := h.ob _ _ _ e; omega))), (h.low _ _ _ e).2⟩
  · unfold upd at e1 e2
    by_cases q1 : o1 = H.next ∧ v1 = v <;> by_cases q2 : o2 = H.next ∧ v2 = v
    · rw [if_pos q1] at e1; rw [if_pos q2] at e2; obtain rfl := Option.some.inj e1; obtain rfl := Option.some.inj e2; exact ⟨by rw [q1.1, q2.1], rfl⟩
    · rw [if_pos q1] at e1; rw [if_neg q2] at e2; obtain rfl := Option.some.inj e1; exact absurd e.symm (hfree _ _ _ e2)
    · rw [if_neg q1] at e1; rw [if_pos q2] at e2; obtain rfl := Option.some.inj e2; exact absurd e (hfree _ _ _ e1)
    · rw [if_neg q1] at e1; rw [if_neg q2] at e2; exact h.inj _ _ _ _ _ _ e1 e2 e
  · unfold upd at e
    by_cases q : o = H.next ∧ u = v
    · rw [if_pos q] at e; obtain rfl := Option.some.inj e
      obtain ⟨rfl, rfl⟩ := q
      exact ⟨ao, (hget _).trans (if_pos rfl), Nat.lt_succ_self _, hob⟩
    · rw [if_neg q] at e
      obtain ⟨a2, k1, k2, k3⟩ := h.ob _ _ _ e
      exact ⟨a2, (hget _).trans ((if_neg (by omega)).trans k1), by show o < H.next + 1; omega, k3.mono hle rfl⟩
  · unfold upd at e
    by_cases q : o = H.next ∧ u = v
    · exact .inr ⟨by omega, by rw [q.1]; exact Nat.lt_succ_self _⟩
    · rw [if_neg q] at e; exact .inl ⟨u, L, e⟩

/-! The sum. -/
def sumLen (H : AH) : List (AV × AV) → Option Nat
  | [] => some 0
  | e :: es => match e.2 with
    | .p (some b) => match H.read b 0, sumLen H es with
      | some (.l _ len _), some n => some (len + n)
      | _, _ => none
    | _ => none
def usedO (g : Nat) (xs : List AV) (H : AH) : Option (AV × AH) := if g = 32 then match xs with
  | [.p (some a)] => match H.read a 1 with
    | some (.m (some o)) => match H.entries (some o) with
      | some es => match sumLen H es with
        | some n => if n < 4611686018427387904 then some (.n .i64 n, H) else none
        | none => none
      | none => none
    | _ => none
  | _ => none
  else none
theorem usedO_some {g : Nat} {xs : List AV} {H : AH} {r : AV × AH} (e : usedO g xs H = some r) : ∃ a o es n, g = 32 ∧ xs = [.p (some a)] ∧ H.read a 1 = some (.m (some o)) ∧ H.entries (some o) = some es ∧ sumLen H es = some n ∧ n < 4611686018427387904 ∧ r = (.n .i64 n, H) := by
  unfold usedO at e
  split at e
  · rename_i hg
    (repeat' split at e) <;> first
      | (cases e; done)
      | exact ⟨_, _, _, _, hg, rfl, by assumption, by assumption, by assumption, by assumption, (Option.some.inj e).symm⟩
  · cases e
def lenAt (w : World) (e : MapEntry) : Int := match e.val with
  | .pointer (some x) => match w.cell? x with
    | some (.slice _ n _) => n
    | _ => 0
  | _ => 0
theorem sum_rel {φ : Ph} {H : AH} {w : World} {B : Nat} (hH : HR φ H w B) : ∀ (es : List (AV × AV)) (l : List MapEntry) (n : Nat), VRs φ (es.map (·.2)) (l.map (·.val)) → sumLen H es = some n →
    (∀ e ∈ l, ∃ (xb xo : Nat) (s : Option Addr) (n c : Nat), e.val = .pointer (some ⟨xb, xo, none⟩) ∧ w.cell? ⟨xb, xo, none⟩ = some (.slice s n c) ∧ lenAt w e = n) ∧ (l.map (lenAt w)).sum = n
  | [], [], n, _, h => by rw [sumLen] at h; obtain rfl := Option.some.inj h; exact ⟨fun e he => (List.not_mem_nil he).elim, rfl⟩
  | e :: es, e' :: l, n, ⟨h1, h2⟩, h => by
    rw [sumLen] at h
    split at h
    · rename_i b hb
      split at h
      · rename_i q len c m hr hs
        obtain rfl := Option.some.inj h
        obtain ⟨i1, i2⟩ := sum_rel hH es l m h2 hs
        have h1 : VR φ e.2 e'.val := h1
        rw [hb] at h1
        obtain ⟨L, x1, x2, hv⟩ := h1
        obtain ⟨cv, c1, c2⟩ := hH.cell x1 x2 hr
        rw [Nat.add_zero] at c1
        obtain ⟨s, c', rfl⟩ : ∃ s c', cv = .slice s len c' := by
          cases q with
          | none => obtain ⟨rfl, _, rfl⟩ := c2; exact ⟨_, _, rfl⟩
          | some q => obtain ⟨L', off, c', _, rfl, _⟩ := c2; exact ⟨_, _, rfl⟩
        have hl : lenAt w e' = len := by unfold lenAt; rw [hv]; dsimp only; rw [c1]
        refine ⟨fun x hx => ?_, by rw [List.map_cons, List.sum_cons, i2, hl]; exact (Int.natCast_add _ _).symm⟩
        rcases List.mem_cons.1 hx with rfl | hx
        · exact ⟨_, _, _, _, _, hv, c1, hl⟩
        · exact i1 x hx
      · cases h
    · cases h
  | [], _ :: _, _, h, _ => h.elim
  | _ :: _, [], _, h, _ => h.elim
theorem sims_used : Sims Tryd.prog usedO := by
  refine ⟨fun g xs H v H' e => ?_, fun g xs H r e => ?_, fun g xs H v H' e φ B vs w hH hr => ?_⟩
  · obtain ⟨_, _, _, _, _, _, _, _, _, _, h⟩ := usedO_some e
    obtain ⟨_, rfl⟩ := Prod.mk.inj h; exact Nat.le_refl _
  · obtain ⟨_, _, _, _, rfl, _⟩ := usedO_some e
    exact ⟨Tryd.f32, Tryd.func32, by kernel_rfl, by kernel_rfl⟩
  · obtain ⟨a, o, es, n, rfl, rfl, h1, h2, h3, h4, h⟩ := usedO_some e
    obtain ⟨rfl, rfl⟩ := Prod.mk.inj h
    match vs, hr with
    | [v1], hr =>
      obtain ⟨⟨L, x1, x2, rfl⟩, _⟩ := hr
      obtain ⟨cv, c1, c2⟩ := hH.cell x1 x2 h1
      obtain ⟨L', y1, rfl⟩ := c2
      obtain ⟨_, arr, clock, g1, g2, g3, g4, g5⟩ := hH.map y1 h2
      obtain ⟨s1, s2⟩ := sum_rel hH es arr.toList n g3 h3
      refine (used_calls w L.blk (a.i - L.d) L'.blk clock arr (lenAt w) c1 g1 g4 g5 s1).mono fun e w' ⟨e1, e2⟩ => ?_
      subst e1
      refine ⟨_, φ, rfl, ?_, hH.later e2, Ext.refl _ _, below_low e2 hH.base⟩
      rw [VR, s2, wrap_i64]
      rw [if_neg (by omega)]
      congr 1; omega

def fsO : Nat → List AV → AH → Option (AV × AH) := usedO
theorem sims_fs : Sims Tryd.prog fsO := sims_used
end Go.Proofs.YtjhijcehcklipaaDoor.Ev
