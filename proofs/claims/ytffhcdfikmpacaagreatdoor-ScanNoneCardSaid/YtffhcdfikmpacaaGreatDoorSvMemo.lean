/-
  A call with one number is told as it is told where no memory is: what it hands back is laid anew.
-/
import Derived.Test.YtffhcdfikmpacaaGreatDoorSvFs
set_option linter.unusedVariables false
set_option linter.unusedSimpArgs false
namespace Go.Proofs.YtffhcdfikmpacaaGreatDoor.Ev
open Go.RowKit

def scal : AV → Bool
  | .b _ => true
  | .n _ _ => true
  | .s _ => true
  | _ => false
theorem scal_rel {φ φ' : Ph} {a : AV} {v : Value} (h : scal a = true) (hv : VR φ a v) : VR φ' a v := by
  cases a with
  | b x => exact hv
  | n k x => exact hv
  | s l => exact hv
  | _ => cases h
theorem scals_rel {φ φ' : Ph} : ∀ {xs : List AV} {vs : List Value}, xs.all scal = true → VRs φ xs vs → VRs φ' xs vs
  | [], [], _, _ => trivial
  | a :: xs, v :: vs, h, ⟨p, q⟩ => by
    rw [List.all_cons, Bool.and_eq_true] at h
    exact ⟨scal_rel h.1 p, scals_rel h.2 q⟩
  | [], _ :: _, _, e => e.elim
  | _ :: _, [], _, e => e.elim
def memoR (H : AH) (r : Option (AV × AH)) : Option (AV × AH) := match r with
  | some (.l (some a) len cap, H0) => match H0.objs.get a.o with
    | some (.row _ size minv z) => if a.i = 0 ∧ a.v = size ∧ 0 < len ∧ 0 < size then match H0.reads a 0 size with
        | some cs => if cs.all scal = true ∧ okNew H cs = true then some (.l (some ⟨H.next, cs.length, 0⟩) len cap, H.new cs z) else none
        | none => none
      else none
    | _ => none
  | some (.l none len cap, _) => some (.l none len cap, H)
  | some (.n k x, _) => some (.n k x, H)
  | some (.b x, _) => some (.b x, H)
  | _ => none
noncomputable def memoX (G : Nat → Bool) (C : Nat → List AV → AH → Option (AV × AH)) (g : Nat) (xs : List AV) (H : AH) : Option (AV × AH) :=
  bc (G g) (List.casesOn (motive := fun _ => Option (AV × AH)) xs none fun x r => List.casesOn (motive := fun _ => Option (AV × AH)) r
    (asN x none fun k i => bc (Nat.beq (tagK k) 3) (natOfO i none fun m => Nat.rec (motive := fun _ => Option (AV × AH)) (memoR H (C g [.n .i64 (.ofNat 0)] ⟨.nil, 0⟩)) (fun m _ => memoR H (C g [.n .i64 (.ofNat (m + 1))] ⟨.nil, 0⟩)) m) none) fun _ _ => none) none
theorem memoX_some {G : Nat → Bool} {C : Nat → List AV → AH → Option (AV × AH)} {g : Nat} {xs : List AV} {H : AH} {r : AV × AH} (e : memoX G C g xs H = some r) : xs.all scal = true ∧ memoR H (C g xs ⟨.nil, 0⟩) = some r := by
  unfold memoX at e
  cases hG : G g with
  | false => rw [hG] at e; cases e
  | true =>
    rw [hG] at e
    match xs, e with
    | [x], e =>
      cases x
      case n k i =>
        change bc (Nat.beq (tagK k) 3) _ none = some r at e
        cases hk : Nat.beq (tagK k) 3 with
        | false => rw [hk] at e; cases e
        | true =>
          rw [hk] at e
          have : k = .i64 := by
            cases k <;> first | rfl | (exact absurd hk (by decide))
          subst this
          cases i with
          | negSucc i => cases e
          | ofNat m => cases m with
            | zero => exact ⟨rfl, e⟩
            | succ m => exact ⟨rfl, e⟩
      all_goals cases e
    | [], e => cases e
    | _ :: _ :: _, e => cases e
theorem reads_get {H : AH} {a : Pl} : ∀ (n k : Nat) (cs : List AV), H.reads a k n = some cs → cs.length = n ∧ ∀ j, j < n → ∃ c, cs[j]? = some c ∧ H.read a (k + j) = some c
  | 0, k, cs, h => by rw [AH.reads] at h; obtain rfl := Option.some.inj h; exact ⟨rfl, fun j hj => by omega⟩
  | n + 1, k, cs, h => by
    rw [AH.reads] at h
    split at h
    · rename_i c cs' h1 h2
      obtain rfl := Option.some.inj h
      obtain ⟨i1, i2⟩ := reads_get n (k + 1) cs' h2
      refine ⟨by rw [List.length_cons, i1], fun j hj => ?_⟩
      cases j with
      | zero => exact ⟨c, rfl, h1⟩
      | succ j =>
        obtain ⟨c', e1, e2⟩ := i2 j (by omega)
        exact ⟨c', by simpa using e1, by rw [show k + (j + 1) = k + 1 + j by omega]; exact e2⟩
    · cases h
theorem nx_of_memo {H : AH} {x : Option (AV × AH)} {r : AV × AH} (e : memoR H x = some r) : H.next ≤ r.2.next ∧ ∃ y, x = some y := by
  unfold memoR at e
  (repeat' split at e) <;> first
    | (cases e; done)
    | (obtain rfl := Option.some.inj e; exact ⟨Nat.le_succ _, _, rfl⟩)
    | (obtain rfl := Option.some.inj e; exact ⟨Nat.le_refl _, _, rfl⟩)
theorem GoodW.up {φ : Ph} {H : AH} {w : World} {B : Nat} (h : HR φ H w B) : Firm w.heap.size w := by
  obtain ⟨W0, g, hk⟩ := h.inv
  exact ⟨w, ⟨Nat.lt_of_lt_of_le g.1 h.base, by obtain ⟨hB, ev, g1, g2⟩ := g; exact ⟨ev, by rw [← g1]; unfold World.cell?; dsimp only; rw [hk 1 hB], g2⟩⟩, fun _ _ => rfl⟩
theorem sims_memo {P : Program} {C : Nat → List AV → AH → Option (AV × AH)} (hC : Sims P C) (G : Nat → Bool) : Sims P (memoX G C) := by
  refine ⟨fun g xs H v H' e => (nx_of_memo (memoX_some e).2).1, fun g xs H r e => ?_, fun g xs H v H' e φ B vs w hH hr => ?_⟩
  · obtain ⟨_, y, hy⟩ := nx_of_memo (memoX_some e).2
    exact hC.fn _ _ _ _ hy
  · obtain ⟨h1, h2⟩ := memoX_some e
    have h0 : HR (fun _ _ => none) ⟨.nil, 0⟩ w w.heap.size := ⟨GoodW.up hH, Nat.le_refl _, (fun _ _ _ e => by cases e), (fun _ _ _ _ _ _ e => by cases e), by decide, (fun _ _ _ e => by cases e)⟩
    obtain ⟨_, ⟨v0, H0⟩, hy⟩ := nx_of_memo h2
    rw [hy] at h2
    refine (hC.ok g xs ⟨.nil, 0⟩ v0 H0 hy _ _ vs w h0 (scals_rel h1 hr)).mono fun e w' ⟨u, φ', e1, e2, e3, e4, e5⟩ => ?_
    subst e1
    have hl := hH.later e5
    have same : scal v0 = true → (v, H') = (v0, H) → ∃ u' φ2, Ending.returned u = .returned u' ∧ VR φ2 v u' ∧ HR φ2 H' w' B ∧ Ext φ φ2 H H' ∧ Below B w w' := fun hs q => by
      obtain ⟨rfl, rfl⟩ := Prod.mk.inj q
      exact ⟨u, φ, rfl, scal_rel hs e2, hl, Ext.refl _ _, below_low e5 hH.base⟩
    unfold memoR at h2
    split at h2
    · rename_i a len cap H0' hv
      obtain ⟨rfl, rfl⟩ := Prod.mk.inj (Option.some.inj hv)
      split at h2
      · rename_i cells size minv z hget
        split at h2
        · rename_i hc
          obtain ⟨c1, c2, c4, c5⟩ := hc
          split at h2
          · rename_i cs hcs
            split at h2
            · rename_i hok
              obtain ⟨o1, o2⟩ := hok
              obtain ⟨rfl, rfl⟩ := Prod.mk.inj (Option.some.inj h2)
              obtain ⟨n1, n2⟩ := okNew_spec o2
              obtain ⟨L, off, c, x1, rfl, x2, x3, x4, x5, x6⟩ := e2
              obtain ⟨r1, r2⟩ := reads_get _ _ _ hcs
              have hd : L.d = 0 ∨ (len = 0 ∧ c = 0) := by rcases x6 with ⟨x6, _⟩ | x6; exact .inl (by omega); exact .inr x6
              obtain ⟨ao, k1, k2, kob⟩ := e3.ob _ _ _ x1
              rw [hget] at k1
              obtain rfl := Option.some.inj k1
              obtain ⟨t1, t2, t3, t4, t5⟩ := kob
              have hread := r2 0 (by omega)
              obtain ⟨cc, _, hread⟩ := hread
              have hm : minv ≤ a.v := by
                unfold AH.read at hread
                rw [hget] at hread
                dsimp only at hread
                split at hread
                · rename_i q; exact q.1
                · cases hread
              obtain ⟨arr, elem, lo, hi, g1, g2, g3, g4⟩ := t5 hm
              by_cases hL0 : L.d = 0
              · obtain ⟨blk, d, cp, zz⟩ := L
                dsimp only at hL0 x5 t2 t3 x6 g1 g2 g3 g4
                subst hL0
                have hlow : w.heap.size ≤ blk ∧ blk < _ := ⟨e3.above x1 hget c2, (e3.low _ _ _ x1).2⟩
                obtain ⟨q1, q2⟩ := hl.bindAt (ao := .row (setFrom .nil 0 cs) cs.length 0 z) (v := cs.length) (g := blk) (z := zz) (cap := cp) n1 (H' := H.new cs z) rfl ⟨Nat.le_trans hH.base hlow.1, hlow.2⟩ (fun o v L e q => by have := (hH.low o v L e).2; have h3 := hlow.1; omega)
                  (OB.mkRow ⟨Nat.le_refl _, Nat.zero_le _, t3, by omega, fun _ => ⟨arr, elem, lo, hi, g1, g2, g3, fun i _ hi => by
                    obtain ⟨x, cv, p1, p2, p3⟩ := g4 i (by omega) (by omega)
                    obtain ⟨c', p4, p5⟩ := r2 i (by omega)
                    have : c' = x := by
                      unfold AH.read at p5
                      rw [hget] at p5
                      dsimp only at p5
                      split at p5
                      · rw [show a.i + (0 + i) = i by omega, p1] at p5; exact (Option.some.inj p5).symm
                      · cases p5
                    subst this
                    refine ⟨c', cv, ?_, p2, scal_rel ?_ p3⟩
                    · rw [setFrom_get _ _ _ _ (by omega), if_pos (by omega), Nat.sub_zero]; exact p4
                    · exact List.all_eq_true.1 o1 c' (List.mem_of_getElem? p4)⟩⟩)
                exact ⟨_, _, rfl, ⟨_, off, c, upd_same _ _ _ _, rfl, x2, x3, x4, x5, by rcases x6 with ⟨_, x6⟩ | x6; exact .inl ⟨Nat.le_refl _, by show off = 0 - 0; omega⟩; exact .inr x6⟩, q1, q2, below_low e5 hH.base⟩
              · exact absurd (by rcases hd with hd | hd; exact hd; omega) hL0
            · cases h2
          · cases h2
        · cases h2
      · cases h2
    · rename_i len cap H0' hv
      obtain ⟨rfl, rfl⟩ := Prod.mk.inj (Option.some.inj hv)
      obtain ⟨rfl, rfl⟩ := Prod.mk.inj (Option.some.inj h2)
      exact ⟨u, φ, rfl, e2, hl, Ext.refl _ _, below_low e5 hH.base⟩
    · rename_i k x H0' hv
      obtain ⟨rfl, rfl⟩ := Prod.mk.inj (Option.some.inj hv)
      exact same rfl (Option.some.inj h2).symm
    · rename_i x H0' hv
      obtain ⟨rfl, rfl⟩ := Prod.mk.inj (Option.some.inj hv)
      exact same rfl (Option.some.inj h2).symm
    · cases h2
inductive Sm where
  | row (cs : List AV) (len cap z : Nat)
  | val (v : AV)
def sumR (r : Option (AV × AH)) : Option Sm := match r with
  | some (.l (some a) len cap, H0) => match H0.objs.get a.o with
    | some (.row _ size minv z) => if a.i = 0 ∧ a.v = size ∧ 0 < len ∧ 0 < size then match H0.reads a 0 size with
        | some cs => if cs.all scal = true then some (.row cs len cap z) else none
        | none => none
      else none
    | _ => none
  | some (.l none len cap, _) => some (.val (.l none len cap))
  | some (.n k x, _) => some (.val (.n k x))
  | some (.b x, _) => some (.val (.b x))
  | _ => none
noncomputable def finR (s : Sm) (H : AH) : Option (AV × AH) := Sm.rec (motive := fun _ => AH → Option (AV × AH))
  (fun cs len cap z H => bc (okNew H cs) (some (.l (some ⟨H.next, cs.length, 0⟩) len cap, newF H cs z)) none) (fun v H => some (v, H)) s H
theorem memo_of_sum {H : AH} {r : Option (AV × AH)} {s : Sm} {q : AV × AH} (h : sumR r = some s) (e : finR s H = some q) : memoR H r = some q := by
  unfold sumR at h
  split at h
  · rename_i a len cap H0
    split at h
    · rename_i cells size minv z hget
      split at h
      · rename_i hc
        split at h
        · rename_i cs hcs
          split at h
          · rename_i hs
            obtain rfl := Option.some.inj h
            change bc (okNew H cs) (some (.l (some ⟨H.next, cs.length, 0⟩) len cap, newF H cs z)) none = some q at e
            cases ho : okNew H cs with
            | false => rw [ho] at e; cases e
            | true =>
              rw [ho] at e
              obtain rfl := Option.some.inj e
              show memoR H (some (.l (some a) len cap, H0)) = _
              unfold memoR
              simp only [hget, hcs, if_pos hc]
              rw [if_pos ⟨hs, ho⟩, newF_eq]
          · cases h
        · cases h
      · cases h
    · cases h
  all_goals first
    | (cases h; done)
    | (obtain rfl := Option.some.inj h; exact e)
noncomputable def findT (t : List (Nat × Nat × Sm)) (g m : Nat) (H : AH) : Option (AV × AH) :=
  List.rec (motive := fun _ => Nat → Nat → AH → Option (AV × AH)) (fun _ _ _ => none) (fun e _ ih g m H => bc (Nat.beq e.1 g) (bc (Nat.beq e.2.1 m) (finR e.2.2 H) (ih g m H)) (ih g m H)) t g m H
noncomputable def tabX (G : Nat → Bool) (t : List (Nat × Nat × Sm)) (g : Nat) (xs : List AV) (H : AH) : Option (AV × AH) :=
  bc (G g) (List.casesOn (motive := fun _ => Option (AV × AH)) xs none fun x r => List.casesOn (motive := fun _ => Option (AV × AH)) r
    (asN x none fun k i => bc (Nat.beq (tagK k) 3) (natOfO i none fun m => findT t g m H) none) fun _ _ => none) none
theorem findT_some {t : List (Nat × Nat × Sm)} {g m : Nat} {H : AH} {r : AV × AH} (e : findT t g m H = some r) : ∃ s, (g, m, s) ∈ t ∧ finR s H = some r := by
  induction t with
  | nil => cases e
  | cons a t ih =>
    obtain ⟨g', m', s⟩ := a
    change bc (Nat.beq g' g) (bc (Nat.beq m' m) (finR s H) (findT t g m H)) (findT t g m H) = some r at e
    have tl : findT t g m H = some r → ∃ s', (g, m, s') ∈ (g', m', s) :: t ∧ finR s' H = some r := fun e => by
      obtain ⟨s', h1, h2⟩ := ih e
      exact ⟨s', List.mem_cons_of_mem _ h1, h2⟩
    cases hg : Nat.beq g' g with
    | false => rw [hg] at e; exact tl e
    | true =>
      rw [hg] at e
      change bc (Nat.beq m' m) (finR s H) (findT t g m H) = some r at e
      cases hm : Nat.beq m' m with
      | false => rw [hm] at e; exact tl e
      | true =>
        rw [hm] at e
        obtain rfl := Nat.eq_of_beq_eq_true hg
        obtain rfl := Nat.eq_of_beq_eq_true hm
        exact ⟨s, List.mem_cons_self, e⟩
theorem tabX_memo {G : Nat → Bool} {C : Nat → List AV → AH → Option (AV × AH)} {t : List (Nat × Nat × Sm)} (ht : ∀ g m s, (g, m, s) ∈ t → sumR (C g [.n .i64 (.ofNat m)] ⟨.nil, 0⟩) = some s)
    {g : Nat} {xs : List AV} {H : AH} {r : AV × AH} (e : tabX G t g xs H = some r) : memoX G C g xs H = some r := by
  unfold tabX at e
  unfold memoX
  cases hG : G g with
  | false => rw [hG] at e; cases e
  | true =>
    rw [hG] at e
    match xs, e with
    | [x], e =>
      cases x
      case n k i =>
        change bc (Nat.beq (tagK k) 3) _ none = some r at e
        change bc (Nat.beq (tagK k) 3) _ none = some r
        cases hk : Nat.beq (tagK k) 3 with
        | false => rw [hk] at e; cases e
        | true =>
          rw [hk] at e
          cases i with
          | negSucc i => cases e
          | ofNat m =>
            change findT t g m H = some r at e
            obtain ⟨s, h1, h2⟩ := findT_some e
            have := memo_of_sum (ht g m s h1) h2
            cases m <;> exact this
      all_goals cases e
    | [], e => cases e
    | _ :: _ :: _, e => cases e
theorem sims_le {P : Program} {C C' : Nat → List AV → AH → Option (AV × AH)} (hC : Sims P C) (hl : ∀ g xs H r, C' g xs H = some r → C g xs H = some r) : Sims P C' :=
  ⟨fun g xs H v H' e => hC.nx g xs H v H' (hl _ _ _ _ e), fun g xs H r e => hC.fn g xs H r (hl _ _ _ _ e), fun g xs H v H' e => hC.ok g xs H v H' (hl _ _ _ _ e)⟩
theorem sims_tab {P : Program} {C : Nat → List AV → AH → Option (AV × AH)} (hC : Sims P C) (G : Nat → Bool) (t : List (Nat × Nat × Sm)) (ht : ∀ g m s, (g, m, s) ∈ t → sumR (C g [.n .i64 (.ofNat m)] ⟨.nil, 0⟩) = some s) : Sims P (tabX G t) :=
  sims_le (sims_memo hC G) fun _ _ _ _ e => tabX_memo ht e
end Go.Proofs.YtffhcdfikmpacaaGreatDoor.Ev
