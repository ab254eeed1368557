/-
  A write, and growth: what they leave.
-/
import Derived.Test.YtjhijcehcklipaaZEvHeap
set_option linter.unusedVariables false
namespace Go.Proofs.Ytjhijcehcklipaa.Ev
open Go.RowKit (Below)

theorem HR.room {φ : Ph} {cells : Tr AV} {L : Lo} {v : Nat} {w : World} {arr : Array Value} {elem lo hi : Nat} (hs : L.s = 0) (h4 : ∀ i, L.d ≤ i → i < v → ∃ a c, cells.get i = some a ∧ arr[i - L.d + (L.s - 1)]? = some c ∧ VR φ a c) {e : Nat} (he : e ≤ v) (hd : L.d ≤ e) : e - L.d ≤ arr.size := by
  by_cases q : e = L.d
  · omega
  · obtain ⟨a, c, _, hc, _⟩ := h4 (e - 1) (by omega) (by omega)
    rw [hs] at hc
    change arr[e - 1 - L.d]? = some c at hc
    have : e - 1 - L.d < arr.size := by
      by_cases z : e - 1 - L.d < arr.size
      · exact z
      · rw [Array.getElem?_eq_none (by omega)] at hc; cases hc
    omega
theorem HR.above {φ : Ph} {H : AH} {w : World} {B : Nat} (h : HR φ H w B) {o v : Nat} {L : Lo} (hp : φ o v = some L) {c s m z} (g : H.objs.get o = some (.row c s m z)) (hv : v = s) : B ≤ L.blk := by
  rcases (h.low _ _ _ hp).1 with q | q
  · exact q.1
  · have := q.last g; omega
theorem HR.own {φ : Ph} {H : AH} {w : World} {B : Nat} (h : HR φ H w B) {o v : Nat} {L : Lo} (hp : φ o v = some L) {c s m z} (g : H.objs.get o = some (.row c s m z)) (hv : v = s) : L.s = 0 := by
  rcases (h.low _ _ _ hp).1 with q | q
  · exact q.2
  · have := q.last g; omega
theorem HR.write {P : Program} {φ : Ph} {H H' : AH} {w : World} {B : Nat} (h : HR φ H w B) {a : Pl} {cs : List AV} (hw : H.write a cs = some H') {L : Lo} (hp : φ a.o a.v = some L) (hd : L.d ≤ a.i)
    {vs : List Value} (hr : VRs φ cs vs) (h1 : ∀ v ∈ vs, v.oneCell' = true) :
    ∃ w', (storeCells ⟨L.blk, a.i - L.d + (L.s - 1), none⟩ vs).run P w = .ok () w' ∧ HR φ H' w' B ∧ Ext φ φ H H' ∧ Below B w w' := by
  obtain ⟨ao, g1, g2, hob⟩ := h.ob _ _ _ hp
  unfold AH.write at hw
  rw [g1] at hw
  cases ao with
  | mp es => cases hw
  | row cells size minv z =>
  obtain ⟨g3, g4, g5, g6, g7⟩ := hob
  simp only at hw
  by_cases q : minv ≤ a.v ∧ a.v = size ∧ a.i + cs.length ≤ size
  · rw [if_pos q] at hw
    obtain rfl := Option.some.inj hw
    obtain ⟨q1, q2, q3⟩ := q
    obtain ⟨arr, elem, lo, hi, e1, e2, e3, e4⟩ := g7 q1
    have hl := hr.length
    have hs := h.own hp g1 q2
    have hroom := HR.room (w := w) (hs := hs) (elem := elem) (lo := lo) (hi := hi) e4 (e := a.i + cs.length) (by omega) (by omega)
    obtain ⟨w', arr', p1, p2, p3, p4, p5, p6, p7, p8, p9⟩ := stores (P := P) (b := L.blk) (o := a.i - L.d + (L.s - 1)) vs 0 w arr elem lo hi e1 (by rw [e2]; exact e3 hs) (by omega) h1
    have hg : ∀ o, (H.objs.set deep a.o (.row (setFrom cells a.i cs) size size z)).get o = if o = a.o then some (.row (setFrom cells a.i cs) size size z) else H.objs.get o := fun o => Tr.at_set _ _ _ _ (by have := h.nx; omega)
    refine ⟨w', p1, ⟨h.inv.of fun k hk => p8 k (by have := h.above hp g1 q2; omega), by rw [p4]; exact h.base, fun o v L' e => by rw [p4]; exact ⟨(h.low o v L' e).1.imp id fun f => f.grown g1 (Nat.le_refl _) hg, (h.low o v L' e).2⟩, h.inj, h.nx, fun o v L' e => ?_⟩, ⟨Le.refl _, fun _ v L h => .inl ⟨v, L, h⟩, Nat.le_refl _⟩, ⟨p5, p6, p7, by rw [p4]; exact Nat.le_refl _, fun k hk => p8 k (by have := h.above hp g1 q2; omega)⟩⟩
    obtain ⟨ao2, k1, k2, kob⟩ := h.ob _ _ _ e
    by_cases qo : o = a.o
    · subst qo
      rw [g1] at k1
      obtain rfl := Option.some.inj k1
      obtain ⟨k3, k4, k5, k6, k7⟩ := kob
      refine ⟨_, (hg _).trans (if_pos rfl), k2, OB.mkRow ⟨k3, k4, k5, k6, fun hm => ?_⟩⟩
      have hv : v = a.v := by omega
      subst hv
      rw [hp] at e
      obtain rfl := Option.some.inj e
      refine ⟨arr', elem, lo, hi, p2, by rw [p3, e2], e3, fun i hi1 hi2 => ?_⟩
      rw [setFrom_get cs cells a.i i (by omega), p9]
      by_cases r : a.i ≤ i ∧ i < a.i + cs.length
      · rw [if_pos r, if_pos (by omega)]
        have hx : cs[i - a.i]? = some (cs[i - a.i]'(by omega)) := List.getElem?_eq_getElem _
        obtain ⟨u, u1, u2⟩ := hr.get hx
        exact ⟨_, u, hx, by rw [← u1]; congr 1; omega, u2⟩
      · rw [if_neg r, if_neg (by omega)]
        exact e4 i hi1 hi2
    · exact ⟨ao2, (hg _).trans ((if_neg qo).trans k1), k2, kob.mono (Le.refl _) (p8 _ fun hb => qo (h.inj _ _ _ _ _ _ e hp hb).1)⟩
  · rw [if_neg q] at hw; cases hw

theorem HR.top {φ : Ph} {H : AH} {w : World} {B : Nat} (h : HR φ H w B) {o : Nat} {cells : Tr AV} {size minv z : Nat} (hg : H.objs.get o = some (.row cells size minv z)) {v : Nat} (hv : size < v) : φ o v = none := by
  cases e : φ o v with
  | none => rfl
  | some L =>
    obtain ⟨_, k1, _, k3⟩ := h.ob _ _ _ e
    rw [hg] at k1
    obtain rfl := Option.some.inj k1
    have k3 := k3.1
    omega
/-- It grows where it lies. -/
theorem HR.growIn {P : Program} {φ : Ph} {H H' : AH} {w : World} {B : Nat} (h : HR φ H w B) {a : Pl} {len v' z : Nat} {cs : List AV} (hw : H.grow a len cs z = some (v', H')) (hne : 0 < cs.length) {L : Lo} (hp : φ a.o a.v = some L) (hd : L.d ≤ a.i)
    (hcap : a.i - L.d + len + cs.length ≤ L.cap) {vs : List Value} (hr : VRs φ cs vs) (h1 : ∀ v ∈ vs, v.oneCell' = true) :
    ∃ w', (storeCells ⟨L.blk, a.i - L.d + (L.s - 1) + len, none⟩ vs).run P w = .ok () w' ∧ HR (upd φ a.o v' L) H' w' B ∧ Ext φ (upd φ a.o v' L) H H' ∧ Below B w w' := by
  obtain ⟨ao, g1, g2, hob⟩ := h.ob _ _ _ hp
  unfold AH.grow at hw
  rw [g1] at hw
  cases ao with
  | mp es => cases hw
  | row cells size minv z0 =>
  obtain ⟨g3, g4, g5, g6, g7⟩ := hob
  simp only at hw
  by_cases q : minv ≤ a.v ∧ a.v = size ∧ a.i + len = size ∧ z0 = z ∧ size + cs.length < 1000000000
  · rw [if_pos q] at hw
    obtain ⟨rfl, rfl⟩ := Prod.mk.inj (Option.some.inj hw)
    obtain ⟨q1, q2, q3, rfl, q5⟩ := q
    obtain ⟨arr, elem, lo, hi, e1, e2, e3, e4⟩ := g7 q1
    have hs := h.own hp g1 q2
    have hl := hr.length
    have hfree := h.top g1 (v := size + cs.length) (by omega)
    have hle : Le φ (upd φ a.o (size + cs.length) L) := upd_le hfree
    obtain ⟨w', arr', p1, p2, p3, p4, p5, p6, p7, p8, p9⟩ := stores (P := P) (b := L.blk) (o := a.i - L.d + (L.s - 1) + len) vs 0 w arr elem lo hi e1 (by rw [e2]; exact e3 hs) (by omega) h1
    have hg : ∀ o, (H.objs.set deep a.o (.row (setFrom cells size cs) (size + cs.length) minv z0)).get o = if o = a.o then some (.row (setFrom cells size cs) (size + cs.length) minv z0) else H.objs.get o := fun o => Tr.at_set _ _ _ _ (by have := h.nx; omega)
    refine ⟨w', p1, ⟨h.inv.of fun k hk => p8 k (by have := h.above hp g1 q2; omega), by rw [p4]; exact h.base, fun o v L' e => ?_, fun o v L' o2 v2 L2 d1 d2 db => ?_, h.nx, fun o v L' e => ?_⟩, ⟨hle, fun o v L' e => ?_, Nat.le_refl _⟩, ⟨p5, p6, p7, by rw [p4]; exact Nat.le_refl _, fun k hk => p8 k (by have := h.above hp g1 q2; omega)⟩⟩
    · rw [p4]
      unfold upd at e
      by_cases r : o = a.o ∧ v = size + cs.length
      · rw [if_pos r] at e; obtain rfl := Option.some.inj e; exact ⟨.inl ⟨h.above hp g1 q2, h.own hp g1 q2⟩, (h.low _ _ _ hp).2⟩
      · rw [if_neg r] at e; exact ⟨(h.low _ _ _ e).1.imp id fun f => f.grown g1 (Nat.le_add_right _ _) hg, (h.low _ _ _ e).2⟩
    · unfold upd at d1 d2
      by_cases r1 : o = a.o ∧ v = size + cs.length <;> by_cases r2 : o2 = a.o ∧ v2 = size + cs.length
      · rw [if_pos r1] at d1; rw [if_pos r2] at d2; obtain rfl := Option.some.inj d1; obtain rfl := Option.some.inj d2; exact ⟨by rw [r1.1, r2.1], rfl⟩
      · rw [if_pos r1] at d1; rw [if_neg r2] at d2; obtain rfl := Option.some.inj d1
        rw [r1.1]; exact h.inj _ _ _ _ _ _ hp d2 db
      · rw [if_neg r1] at d1; rw [if_pos r2] at d2; obtain rfl := Option.some.inj d2
        rw [r2.1]; exact h.inj _ _ _ _ _ _ d1 hp db
      · rw [if_neg r1] at d1; rw [if_neg r2] at d2; exact h.inj _ _ _ _ _ _ d1 d2 db
    · unfold upd at e
      by_cases r : o = a.o ∧ v = size + cs.length
      · rw [if_pos r] at e; obtain rfl := Option.some.inj e
        obtain ⟨rfl, rfl⟩ := r
        refine ⟨_, (hg _).trans (if_pos rfl), g2, OB.mkRow ⟨Nat.le_refl _, by omega, g5, by omega, fun hm => ⟨arr', elem, lo, hi, p2, by rw [p3, e2], e3, fun i hi1 hi2 => ?_⟩⟩⟩
        rw [setFrom_get cs cells size i (by omega), p9]
        by_cases s : size ≤ i ∧ i < size + cs.length
        · rw [if_pos s, if_pos (by omega)]
          have hx : cs[i - size]? = some (cs[i - size]'(by omega)) := List.getElem?_eq_getElem _
          obtain ⟨u, u1, u2⟩ := hr.get hx
          exact ⟨_, u, hx, by rw [← u1]; congr 1; omega, u2.mono hle⟩
        · rw [if_neg s, if_neg (by omega)]
          obtain ⟨x, c, y1, y2, y3⟩ := e4 i hi1 (by omega)
          exact ⟨x, c, y1, y2, y3.mono hle⟩
      · rw [if_neg r] at e
        obtain ⟨ao2, k1, k2, kob⟩ := h.ob _ _ _ e
        by_cases qo : o = a.o
        · subst qo
          rw [g1] at k1
          obtain rfl := Option.some.inj k1
          obtain ⟨k3, k4, k5, k6, k7⟩ := kob
          refine ⟨_, (hg _).trans (if_pos rfl), k2, OB.mkRow ⟨by omega, k4, k5, by omega, fun hm => ?_⟩⟩
          obtain ⟨arr2, elem2, lo2, hi2, y1, y2, y3, y4⟩ := k7 hm
          by_cases qb : L'.blk = L.blk
          · obtain ⟨_, rfl⟩ := h.inj _ _ _ _ _ _ e hp qb
            rw [e1] at y1
            obtain ⟨rfl, rfl, yy⟩ := Obj.cells.inj (Option.some.inj y1)
            obtain ⟨rfl, rfl⟩ := Prod.mk.inj yy
            refine ⟨arr', elem, lo, hi, p2, by rw [p3, e2], e3, fun i hi1 hi2 => ?_⟩
            rw [setFrom_get cs cells size i (by omega), p9, if_neg (by omega), if_neg (by omega)]
            obtain ⟨x, c, t1, t2, t3⟩ := y4 i hi1 hi2
            exact ⟨x, c, t1, t2, t3.mono hle⟩
          · refine ⟨arr2, elem2, lo2, hi2, (p8 _ qb).trans y1, y2, y3, fun i hi1 hi2 => ?_⟩
            rw [setFrom_get cs cells size i (by omega), if_neg (by omega)]
            obtain ⟨x, c, t1, t2, t3⟩ := y4 i hi1 hi2
            exact ⟨x, c, t1, t2, t3.mono hle⟩
        · exact ⟨ao2, (hg _).trans ((if_neg qo).trans k1), k2, kob.mono hle (p8 _ fun hb => qo (h.inj _ _ _ _ _ _ e hp hb).1)⟩
    · unfold upd at e
      by_cases r : o = a.o ∧ v = size + cs.length
      · exact .inl ⟨a.v, L, by rw [r.1]; exact hp⟩
      · rw [if_neg r] at e; exact .inl ⟨v, L', e⟩
  · rw [if_neg q] at hw; cases hw
/-- It grows in a block of its own. -/
theorem HR.growOut {φ : Ph} {H H' : AH} {w w' : World} {B : Nat} (h : HR φ H w B) {a : Pl} {len v' z elem lo hi : Nat} {cs : List AV} (hw : H.grow a len cs z = some (v', H')) (hne : 0 < cs.length) {L : Lo} (hp : φ a.o a.v = some L) (hd : L.d ≤ a.i ∨ len = 0)
    {arr : Array Value} {old vs : List Value} (hww : w'.heap = w.heap.push (.cells arr elem (lo, hi))) (hfr : lo = hi ∨ arr.size ≤ lo) (hr : VRs φ cs vs) (hol : old.length = len)
    (hold : ∀ (j : Nat) c, j < len → old[j]? = some c → ∃ x, ∀ cells size minv z, H.objs.get a.o = some (.row cells size minv z) → cells.get (a.i + j) = some x ∧ VR φ x c) (harr : ∀ j, j < len + cs.length → arr[j]? = (old ++ vs)[j]?) :
    HR (upd φ a.o v' ⟨w.heap.size, a.i, arr.size, z, 0⟩) H' w' B ∧ Ext φ (upd φ a.o v' ⟨w.heap.size, a.i, arr.size, z, 0⟩) H H' := by
  obtain ⟨ao, g1, g2, hob⟩ := h.ob _ _ _ hp
  unfold AH.grow at hw
  rw [g1] at hw
  cases ao with
  | mp es => cases hw
  | row cells size minv z0 =>
  obtain ⟨g3, g4, g5, g6, g7⟩ := hob
  simp only at hw
  by_cases q : minv ≤ a.v ∧ a.v = size ∧ a.i + len = size ∧ z0 = z ∧ size + cs.length < 1000000000
  · rw [if_pos q] at hw
    obtain ⟨rfl, rfl⟩ := Prod.mk.inj (Option.some.inj hw)
    obtain ⟨q1, q2, q3, rfl, q5⟩ := q
    have hl := hr.length
    have hfree := h.top g1 (v := size + cs.length) (by omega)
    have hle : Le φ (upd φ a.o (size + cs.length) ⟨w.heap.size, a.i, arr.size, z0, 0⟩) := upd_le hfree
    have hsz : w'.heap.size = w.heap.size + 1 := by rw [hww, Array.size_push]
    have hkeep : ∀ k, k < w.heap.size → w'.heap[k]? = w.heap[k]? := fun k hk => by rw [hww, Array.getElem?_push, if_neg (by omega)]
    have hg : ∀ o, (H.objs.set deep a.o (.row (setFrom cells size cs) (size + cs.length) minv z0)).get o = if o = a.o then some (.row (setFrom cells size cs) (size + cs.length) minv z0) else H.objs.get o := fun o => Tr.at_set _ _ _ _ (by have := h.nx; omega)
    refine ⟨⟨h.inv.of fun k hk => hkeep k (by have := h.base; omega), by have := h.base; omega, fun o v L' e => ?_, fun o v L' o2 v2 L2 d1 d2 db => ?_, h.nx, fun o v L' e => ?_⟩, ⟨hle, fun o v L' e => ?_, Nat.le_refl _⟩⟩
    · unfold upd at e
      by_cases r : o = a.o ∧ v = size + cs.length
      · rw [if_pos r] at e; obtain rfl := Option.some.inj e; exact ⟨.inl ⟨h.base, rfl⟩, by show w.heap.size < _; omega⟩
      · rw [if_neg r] at e; have := h.low _ _ _ e; exact ⟨this.1.imp id fun f => f.grown g1 (Nat.le_add_right _ _) hg, by omega⟩
    · unfold upd at d1 d2
      by_cases r1 : o = a.o ∧ v = size + cs.length <;> by_cases r2 : o2 = a.o ∧ v2 = size + cs.length
      · rw [if_pos r1] at d1; rw [if_pos r2] at d2; obtain rfl := Option.some.inj d1; obtain rfl := Option.some.inj d2; exact ⟨by rw [r1.1, r2.1], rfl⟩
      · rw [if_pos r1] at d1; rw [if_neg r2] at d2; obtain rfl := Option.some.inj d1
        have := (h.low _ _ _ d2).2; change w.heap.size = _ at db; omega
      · rw [if_neg r1] at d1; rw [if_pos r2] at d2; obtain rfl := Option.some.inj d2
        have := (h.low _ _ _ d1).2; change _ = w.heap.size at db; omega
      · rw [if_neg r1] at d1; rw [if_neg r2] at d2; exact h.inj _ _ _ _ _ _ d1 d2 db
    · unfold upd at e
      by_cases r : o = a.o ∧ v = size + cs.length
      · rw [if_pos r] at e; obtain rfl := Option.some.inj e
        obtain ⟨rfl, rfl⟩ := r
        refine ⟨_, (hg _).trans (if_pos rfl), g2, OB.mkRow ⟨Nat.le_refl _, by show a.i ≤ _; omega, rfl, by omega, fun hm => ⟨arr, elem, lo, hi, by rw [hww, Array.getElem?_push, if_pos rfl], rfl, fun _ => hfr, fun i hi1 hi2 => ?_⟩⟩⟩
        change a.i ≤ i at hi1
        change ∃ a_1 c, (setFrom cells size cs).get i = some a_1 ∧ arr[i - a.i]? = some c ∧ _
        rw [setFrom_get cs cells size i (by omega), harr (i - a.i) (by omega)]
        by_cases s : size ≤ i ∧ i < size + cs.length
        · rw [if_pos s, List.getElem?_append_right (by omega)]
          have hx : cs[i - size]? = some (cs[i - size]'(by omega)) := List.getElem?_eq_getElem _
          obtain ⟨u, u1, u2⟩ := hr.get hx
          exact ⟨_, u, hx, by rw [← u1]; congr 1; omega, u2.mono hle⟩
        · rw [if_neg s, List.getElem?_append_left (by omega)]
          have hx : old[i - a.i]? = some (old[i - a.i]'(by omega)) := List.getElem?_eq_getElem _
          obtain ⟨x, hx2⟩ := hold (i - a.i) _ (by omega) hx
          obtain ⟨t1, t2⟩ := hx2 _ _ _ _ g1
          rw [show a.i + (i - a.i) = i by omega] at t1
          exact ⟨x, _, t1, hx, t2.mono hle⟩
      · rw [if_neg r] at e
        obtain ⟨ao2, k1, k2, kob⟩ := h.ob _ _ _ e
        have hk := hkeep _ (h.low _ _ _ e).2
        by_cases qo : o = a.o
        · subst qo
          rw [g1] at k1
          obtain rfl := Option.some.inj k1
          obtain ⟨k3, k4, k5, k6, k7⟩ := kob
          refine ⟨_, (hg _).trans (if_pos rfl), k2, OB.mkRow ⟨by omega, k4, k5, by omega, fun hm => ?_⟩⟩
          obtain ⟨arr2, elem2, lo2, hi2, y1, y2, y3, y4⟩ := k7 hm
          refine ⟨arr2, elem2, lo2, hi2, hk.trans y1, y2, y3, fun i hi1 hi2 => ?_⟩
          rw [setFrom_get cs cells size i (by omega), if_neg (by omega)]
          obtain ⟨x, c, t1, t2, t3⟩ := y4 i hi1 hi2
          exact ⟨x, c, t1, t2, t3.mono hle⟩
        · exact ⟨ao2, (hg _).trans ((if_neg qo).trans k1), k2, kob.mono hle hk⟩
    · unfold upd at e
      by_cases r : o = a.o ∧ v = size + cs.length
      · exact .inl ⟨a.v, L, by rw [r.1]; exact hp⟩
      · rw [if_neg r] at e; exact .inl ⟨v, L', e⟩
  · rw [if_neg q] at hw; cases hw
end Go.Proofs.Ytjhijcehcklipaa.Ev
