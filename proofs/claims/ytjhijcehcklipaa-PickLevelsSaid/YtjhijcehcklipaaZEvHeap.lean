/-
  Reads, writes and growth: the second reading's and the model's.
-/
import Derived.Test.YtjhijcehcklipaaZEvRel
import Derived.Laws.Cells
import Derived.Laws.IdiomCopy
import Derived.ChangeKeysEq
set_option linter.unusedVariables false
namespace Go.Proofs.Ytjhijcehcklipaa.Ev
open Go.RowKit (Below)

theorem add_at (b o k : Nat) : (⟨b, o, none⟩ : Addr).add k = ⟨b, o + k, none⟩ := by
  unfold Addr.add
  split
  · rename_i h; subst h; rfl
  · rfl
theorem cell_at {w : World} {b o : Nat} {arr : Array Value} {e : TypeId} {fr : Nat × Nat} (h : w.heap[b]? = some (.cells arr e fr)) : w.cell? ⟨b, o, none⟩ = arr[o]? := by
  unfold World.cell?
  simp [h]
theorem free_at {w : World} {b o : Nat} {arr : Array Value} {e lo hi : Nat} (h : w.heap[b]? = some (.cells arr e (lo, hi))) (hf : lo = hi ∨ arr.size ≤ lo) (ho : o < arr.size) : w.frozen? ⟨b, o, none⟩ = false := by
  unfold World.frozen?
  simp only [h]
  rcases hf with rfl | hf
  · by_cases q : lo ≤ o <;> simp <;> omega
  · simp; omega

theorem HR.held {φ : Ph} {H : AH} {w : World} {B : Nat} (h : HR φ H w B) {a : Pl} {L : Lo} (hp : φ a.o a.v = some L) {k : Nat} {c : AV} (hr : H.read a k = some c) :
    ∃ cells size minv z, H.objs.get a.o = some (.row cells size minv z) ∧ minv ≤ a.v ∧ a.v ≤ size ∧ a.i + k < a.v ∧ cells.get (a.i + k) = some c ∧ Held φ cells L a.v w := by
  obtain ⟨ao, h1, h2, hob⟩ := h.ob _ _ _ hp
  unfold AH.read at hr
  rw [h1] at hr
  cases ao with
  | mp es => cases hr
  | row cells size minv z =>
  obtain ⟨h3, h4, h5, h6, h7⟩ := hob
  simp only at hr
  by_cases q : minv ≤ a.v ∧ a.v ≤ size ∧ a.i + k < a.v
  · rw [if_pos q] at hr
    exact ⟨cells, size, minv, z, h1, q.1, q.2.1, q.2.2, hr, h7 q.1⟩
  · rw [if_neg q] at hr; cases hr
theorem HR.cell {φ : Ph} {H : AH} {w : World} {B : Nat} (h : HR φ H w B) {a : Pl} {L : Lo} (hp : φ a.o a.v = some L) (hd : L.d ≤ a.i) {k : Nat} {c : AV} (hr : H.read a k = some c) :
    ∃ cv, w.cell? ⟨L.blk, a.i - L.d + (L.s - 1) + k, none⟩ = some cv ∧ VR φ c cv := by
  obtain ⟨cells, size, minv, z, h1, h2, h3, h4, h5, arr, elem, lo, hi, g1, g2, g3, g4⟩ := h.held hp hr
  obtain ⟨a', c', p, q, r⟩ := g4 (a.i + k) (by omega) h4
  rw [h5] at p
  obtain rfl := Option.some.inj p
  refine ⟨c', ?_, r⟩
  rw [cell_at g1, show a.i - L.d + (L.s - 1) + k = a.i + k - L.d + (L.s - 1) by omega]
  exact q
theorem HR.cells {φ : Ph} {H : AH} {w : World} {B : Nat} (h : HR φ H w B) {a : Pl} {L : Lo} (hp : φ a.o a.v = some L) (hd : L.d ≤ a.i) : ∀ (n k : Nat) {cs : List AV}, H.reads a k n = some cs →
    ∃ vs : List Value, VRs φ cs vs ∧ vs.length = n ∧ ∀ (j : Nat) v, vs[j]? = some v → w.cell? ⟨L.blk, a.i - L.d + (L.s - 1) + k + j, none⟩ = some v
  | 0, k, cs, hr => by
    rw [AH.reads] at hr; obtain rfl := Option.some.inj hr
    exact ⟨[], trivial, rfl, fun j v e => by simp at e⟩
  | n + 1, k, cs, hr => by
    rw [AH.reads] at hr
    split at hr
    · rename_i c cs' h1 h2
      obtain rfl := Option.some.inj hr
      obtain ⟨cv, p, q⟩ := h.cell hp hd h1
      obtain ⟨vs, r, s, t⟩ := h.cells hp hd n (k + 1) h2
      refine ⟨cv :: vs, ⟨q, r⟩, by simp [s], fun j v e => ?_⟩
      cases j with
      | zero => simp at e; subst e; exact p
      | succ j => rw [show a.i - L.d + (L.s - 1) + k + (j + 1) = a.i - L.d + (L.s - 1) + (k + 1) + j by omega]; exact t j v (by simpa using e)
    · cases hr
theorem HR.loads {P : Program} {φ : Ph} {H : AH} {w : World} {B : Nat} (h : HR φ H w B) {a : Pl} {L : Lo} (hp : φ a.o a.v = some L) (hd : L.d ≤ a.i) {n : Nat} {cs : List AV} (hr : H.reads a 0 n = some cs) :
    ∃ vs : List Value, VRs φ cs vs ∧ vs.length = n ∧ (loadCells ⟨L.blk, a.i - L.d + (L.s - 1), none⟩ n).run P w = .ok vs.toArray w := by
  obtain ⟨vs, p, q, r⟩ := h.cells hp hd n 0 hr
  refine ⟨vs, p, q, ?_⟩
  subst q
  exact run_loadCells_list w _ vs fun j v e => by rw [add_at]; exact r j v e

section
variable {P : Program} {w : World}
theorem run_isAg {t : TypeId} {b : Bool} (h : isAg P t = some b) : (isAgg t).run P w = .ok b w := by
  unfold isAg at h
  unfold isAgg
  split at h
  · rename_i hu
    rw [Sem.run_bind, run_underlying hu, Result.andThen_ok]
    obtain rfl := Option.some.inj h; rfl
  · rename_i hu
    rw [Sem.run_bind, run_underlying hu, Result.andThen_ok]
    obtain rfl := Option.some.inj h; rfl
  · rename_i d h1 h2 hu
    rw [Sem.run_bind, run_underlying hu, Result.andThen_ok]
    obtain rfl := Option.some.inj h
    cases d <;> first | rfl | exact (h1 _ rfl).elim | exact (h2 _ _ rfl).elim
  · cases h
theorem run_sz {t : TypeId} {n : Nat} (h : sz P t = some n) : (sizeOf t).run P w = .ok n w := by
  unfold sz at h
  obtain ⟨i, h1, rfl⟩ := Option.map_eq_some_iff.1 h
  simp [sizeOf, run_typeInfo w h1]
theorem run_zero {φ : Ph} {t : TypeId} {z : AV} (h : zero P t = some z) : ∃ v, (zeroValue t).run P w = .ok v w ∧ VR φ z v := by
  unfold zero at h
  split at h
  · rename_i i hi
    obtain ⟨v, h1, h2⟩ := Option.bind_eq_some_iff.1 h
    refine ⟨v, ?_, toAV_rel φ h2⟩
    unfold zeroValue
    rw [Sem.run_bind, run_typeInfo w hi, Result.andThen_ok, h1]; rfl
  · cases h
theorem HR.loadV {φ : Ph} {H : AH} {B : Nat} (h : HR φ H w B) {t : TypeId} {a : Pl} {c : AV} {L : Lo} (hp : φ a.o a.v = some L) (hd : L.d ≤ a.i) (hr : loadV P H t a = some c) :
    ∃ v, (loadVar t ⟨L.blk, a.i - L.d + (L.s - 1), none⟩).run P w = .ok v w ∧ VR φ c v := by
  unfold Ev.loadV at hr
  unfold loadVar
  split at hr
  · rename_i hag
    split at hr
    · rename_i n hn
      obtain ⟨cs, h1, rfl⟩ := Option.map_eq_some_iff.1 hr
      obtain ⟨vs, p, q, r⟩ := h.loads (P := P) hp hd h1
      refine ⟨.agg vs.toArray, ?_, vs, rfl, p⟩
      rw [Sem.run_bind, run_isAg hag, Result.andThen_ok]
      simp only [if_true, Sem.run_bind, run_sz hn, Result.andThen_ok, r, Sem.run_pure]
    · cases hr
  · rename_i hag
    obtain ⟨cv, p, q⟩ := h.cell hp hd hr
    refine ⟨cv, ?_, q⟩
    rw [Sem.run_bind, run_isAg hag, Result.andThen_ok]
    rw [Nat.add_zero] at p
    simp only [Bool.false_eq_true, if_false, run_load, p]
  · cases hr
end

/-- A store of cells, one behind the other. -/
theorem stores {P : Program} {b o : Nat} : ∀ (vs : List Value) (i : Nat) (w : World) (arr : Array Value) (e lo hi : Nat), w.heap[b]? = some (.cells arr e (lo, hi)) → (lo = hi ∨ arr.size ≤ lo) → o + i + vs.length ≤ arr.size → (∀ v ∈ vs, v.oneCell' = true) →
    ∃ w' arr', (storeCells ⟨b, o, none⟩ vs i).run P w = .ok () w' ∧ w'.heap[b]? = some (.cells arr' e (lo, hi)) ∧ arr'.size = arr.size ∧ w'.heap.size = w.heap.size ∧ w'.os = w.os ∧ w'.tape = w.tape ∧ w'.output = w.output ∧
      (∀ k, k ≠ b → w'.heap[k]? = w.heap[k]?) ∧ ∀ j, arr'[j]? = if o + i ≤ j ∧ j < o + i + vs.length then vs[j - (o + i)]? else arr[j]?
  | [], i, w, arr, e, lo, hi, hb, hf, hs, h1 => ⟨w, arr, rfl, hb, rfl, rfl, rfl, rfl, rfl, fun _ _ => rfl, fun j => by rw [if_neg (by rw [List.length_nil]; omega)]⟩
  | v :: vs, i, w, arr, e, lo, hi, hb, hf, hs, h1 => by
    rw [List.length_cons] at hs
    have hlt : o + i < arr.size := by omega
    have hc : w.cell? ⟨b, o + i, none⟩ = some arr[o + i] := by rw [cell_at hb]; exact Array.getElem?_eq_getElem hlt
    have hz := free_at hb hf hlt
    have hst : (store ((⟨b, o, none⟩ : Addr).add i) v).run P w = .ok () (w.setCell ⟨b, o + i, none⟩ v) := by
      rw [add_at, run_store P w _ v _ (h1 v (List.mem_cons_self ..))]
      simp [hc, hz]
    have hw : (w.setCell ⟨b, o + i, none⟩ v).heap[b]? = some (.cells (arr.set (o + i) v hlt) e (lo, hi)) := by
      unfold World.setCell
      simp [Array.getElem?_modify, hb, hlt, Array.setIfInBounds]
    obtain ⟨w', arr', p1, p2, p3, p4, p5, p6, p7, p8, p9⟩ := stores (P := P) (b := b) (o := o) vs (i + 1) (w.setCell ⟨b, o + i, none⟩ v) (arr.set (o + i) v hlt) e lo hi hw (by rwa [Array.size_set]) (by rw [Array.size_set]; omega) fun u hu => h1 u (List.mem_cons_of_mem _ hu)
    refine ⟨w', arr', ?_, p2, by rw [p3, Array.size_set], ?_, p5, p6, p7, fun k hk => ?_, fun j => ?_⟩
    · rw [storeCells, Sem.run_bind, hst, Result.andThen_ok]; exact p1
    · rw [p4]; unfold World.setCell; simp
    · rw [p8 k hk]; unfold World.setCell; simp [Array.getElem?_modify]; intro q; exact absurd q.symm hk
    · rw [p9, List.length_cons]
      by_cases q : j = o + i
      · subst q
        rw [if_neg (by omega), if_pos (by omega), Nat.sub_self, List.getElem?_cons_zero, Array.getElem?_set_self]
      · by_cases r : o + (i + 1) ≤ j ∧ j < o + (i + 1) + vs.length
        · rw [if_pos r, if_pos (by omega)]
          obtain ⟨d, rfl⟩ : ∃ d, j = o + (i + 1) + d := ⟨j - (o + (i + 1)), by omega⟩
          rw [Nat.add_sub_cancel_left, show o + (i + 1) + d - (o + i) = d + 1 by omega, List.getElem?_cons_succ]
        · rw [if_neg r, if_neg (by omega), Array.getElem?_set, if_neg (by omega)]
end Go.Proofs.Ytjhijcehcklipaa.Ev
