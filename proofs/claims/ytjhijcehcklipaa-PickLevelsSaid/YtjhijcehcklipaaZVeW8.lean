/-
  Versions: what Apply does, plainly; its state.
-/
import Derived.Test.YtjhijcehcklipaaZVeW7
namespace Go.Proofs.Ytjhijcehcklipaa.MVe
open Go.RowKit Go.Proofs.YtjhijcehcklipaaW.PrintWords Go.Proofs.YtjhijcehcklipaaW.PrintLast Go.Proofs.YtjhijcehcklipaaW.PrintMore
set_option linter.unusedVariables false
set_option linter.unusedSimpArgs false

def delF : List S41 → List Int → Option (List S41)
  | xs, [] => some xs
  | xs, n :: r => if idx (fun x => x.f0 == n) xs < 0 then none else delF (xs.eraseIdx (idx (fun x => x.f0 == n) xs).toNat) r
def addF : List S41 → List S41 → Option (List S41)
  | xs, [] => some xs
  | xs, a :: r => if idx (fun x => x.f0 == a.f0) xs ≥ 0 then none else addF (xs ++ [a]) r
def ltr (old n : Int) : Int × Bool := if n = 0 then (old, true) else (n, decide (n ≥ old))
theorem ltr_f (old n : Int) : version_later.f old n = some ((ltr old n).1, (ltr old n).2) := by
  unfold version_later.f ltr; split <;> rfl
def finOk (a b c : Int × Bool) (ys : List S41) : Bool := a.2 && (b.2 && (c.2 && (apartB ys && (!decide (b.1 ≥ a.1) && !decide (idx (fun x => decide (x.f0 ≥ a.1)) ys ≥ 0)))))
/-- An edit's version; none: it may not be. -/
def endV (v : Ver) (n l m : Int) (ys : List S41) : Option Ver := if finOk (ltr v.next n) (ltr v.log l) (ltr v.last m) ys = true then some ⟨ys, (ltr v.next n).1, (ltr v.log l).1, (ltr v.last m).1⟩ else none
def addV (v : Ver) (n l m : Int) (xs adds : List S41) : Option Ver := match addF xs adds with
  | none => none
  | some ys => endV v n l m ys
def delV (v : Ver) (n l m : Int) (adds : List S41) (xs : List S41) (dels : List Int) : Option Ver := match delF xs dels with
  | none => none
  | some xs => addV v n l m xs adds
def apV (v : Ver) (n l m : Int) (adds : List S41) (dels : List Int) : Option Ver := if editOk n l m adds dels = true then delV v n l m adds v.files dels else none
theorem idx_cases (p : S41 → Bool) (xs : List S41) : idx p xs = -1 ∨ ∃ i : Nat, i < xs.length ∧ idx p xs = (i : Int) := by
  unfold idx
  cases h : xs.findIdx? p with
  | none => exact .inl rfl
  | some i =>
    obtain ⟨h1, _⟩ := List.findIdx?_eq_some_iff_getElem.1 h
    exact .inr ⟨i, h1, rfl⟩
theorem delV_cons {v : Ver} {n l m d : Int} {adds xs : List S41} {r : List Int} : delV v n l m adds xs (d :: r) = if idx (fun x => x.f0 == d) xs < 0 then none else delV v n l m adds (xs.eraseIdx (idx (fun x => x.f0 == d) xs).toNat) r := by
  unfold delV
  rw [delF]
  by_cases h : idx (fun x => x.f0 == d) xs < 0
  · rw [if_pos h, if_pos h]
  · rw [if_neg h, if_neg h]
theorem addV_cons {v : Ver} {n l m : Int} {a : S41} {xs r : List S41} : addV v n l m xs (a :: r) = if idx (fun x => x.f0 == a.f0) xs ≥ 0 then none else addV v n l m (xs ++ [a]) r := by
  unfold addV
  rw [addF]
  by_cases h : idx (fun x => x.f0 == a.f0) xs ≥ 0
  · rw [if_pos h, if_pos h]
  · rw [if_neg h, if_neg h]
theorem delV_nil {v : Ver} {n l m : Int} {adds xs : List S41} : delV v n l m adds xs [] = addV v n l m xs adds := rfl
theorem addV_nil {v : Ver} {n l m : Int} {xs : List S41} : addV v n l m xs [] = endV v n l m xs := rfl

theorem raise41 {w : World} {b b' : Nat} {P : Nat → Prop} {v : Value} {xs : List S41} (h : Kd.R k41 41 w b P v xs) (hp : ∀ k, P k → b' ≤ k) : Kd.R k41 41 w b' P v xs := by
  obtain ⟨hok, inner, ⟨hl, ho⟩, hr⟩ := h
  refine ⟨hok, inner, ⟨hl, ?_⟩, hr.imp_ fun x cs h => by rw [k41_openM h]; exact k41_mkM _ _ _ x⟩
  rcases ho with h | ⟨g, cap, cur, rfl, hg, h1⟩
  · exact .inl h
  · exact .inr ⟨g, cap, cur, rfl, hp g (hok g rfl), h1⟩
/-- Apply's state: the edit's block, the copy's box, the copy. -/
structure AInv (w : World) (X g : Nat) (cells : Array Value) (c : Ver) (wr : World) : Prop where
  below : Below w.heap.size w wr
  e : wr.heap[w.heap.size]? = some (.cells cells 45 (0, 0))
  x : wr.heap[X]? = some (.cells #[.pointer (some ⟨g, 0, none⟩)] 37 (0, 0))
  ord : w.heap.size < g ∧ g < X
  v : ∃ vf, VBlk wr g vf c ∧ Kd.R k41 41 wr w.heap.size (fun k => g < k ∧ k ≠ X) vf c.files
theorem AInv.step {w : World} {X g : Nat} {cells : Array Value} {c : Ver} {wr w2 : World} (h : AInv w X g cells c wr) (hb : Below wr.heap.size wr w2) : AInv w X g cells c w2 := by
  obtain ⟨h1, h2, h3, h4, vf, h5, h6⟩ := h
  exact ⟨below_then h1 h1.size hb, (hb.block _ (blk_lt h2)).trans h2, (hb.block _ (blk_lt h3)).trans h3, h4, vf, (hb.block _ (blk_lt h5)).trans h5, Kd.R_below h6 hb⟩
theorem AInv.put {w : World} {X g : Nat} {cells : Array Value} {c : Ver} {wr w4 : World} (h : AInv w X g cells c wr) {vf : Value} {xs : List S41} (hb : Below w.heap.size w w4) (hk : Kept wr w4 (fun k => g < k ∧ k ≠ X)) (hr : Kd.R k41 41 w4 w.heap.size (fun k => g < k ∧ k ≠ X) vf xs) :
    AInv w X g cells { c with files := xs } (w4.setCell ⟨g, 0, none⟩ vf) := by
  obtain ⟨h1, h2, h3, h4, vo, h5, h6⟩ := h
  refine ⟨hb.setCell (Nat.le_of_lt h4.1) _, blk_far (blk_kept h2 hk (fun q => by omega)) (Nat.ne_of_lt h4.1) _, blk_far (blk_kept h3 hk (fun q => q.2 rfl)) (Nat.ne_of_gt h4.2) _, h4, vf, VBlk.set0 (v := c) (vf := vo) (blk_kept h5 hk (fun q => by omega)) vf xs, Kd.R_far hr (fun k hk => Nat.ne_of_gt hk.1) _⟩
theorem AInv.row {w : World} {X g : Nat} {cells : Array Value} {c : Ver} {wr : World} (h : AInv w X g cells c wr) : ∃ A k, VBlk wr g (.slice A c.files.length k) c ∧ Kd.R k41 41 wr w.heap.size (fun k => g < k ∧ k ≠ X) (.slice A c.files.length k) c.files ∧ Kd.C k41 wr A c.files.length c.files ∧ c.files.length ≤ k ∧ wr.cell? ⟨X, 0, none⟩ = some (.pointer (some ⟨g, 0, none⟩)) := by
  obtain ⟨h1, h2, h3, h4, vf, h5, h6⟩ := h
  obtain ⟨A, k, ef, hc, hC⟩ := Kd.R_reads h6
  subst ef
  exact ⟨A, k, h5, h6, hC, hc, (blk_cell h3 0).trans rfl⟩
theorem AInv.start {w0 w w2 : World} {P : Nat → Prop} {g : Nat} {cells : Array Value} {v : Ver} (hb : Below w.heap.size w w2) (he : w2.heap[w.heap.size]? = some (.cells cells 45 (0, 0))) (hg : w.heap.size < g) (hI : VInv w0 (fun k => g < k) g v w2) :
    AInv w w2.heap.size g cells v (w2.alloc (.cells #[.pointer (some ⟨g, 0, none⟩)] 37)) := by
  obtain ⟨h1, h2, vf, h3, h4⟩ := hI
  refine ⟨below_alloc hb _, blk_alloc he _, blk_new _ _, ⟨hg, blk_lt h3⟩, vf, blk_alloc h3 _, ?_⟩
  refine raise41 (Kd.R_below (Kd.R_mono (Kd.R_bound h4) (fun k hk => ⟨hk.1, Nat.ne_of_lt hk.2.2.1⟩)) (below_alloc (Below.refl _ _) _)) (fun k hk => ?_)
  have := hk.1; omega
theorem editOk_len {n l m : Int} {adds : List S41} {dels : List Int} (h : editOk n l m adds dels = true) : adds.length ≤ 200 ∧ dels.length ≤ 200 := by
  unfold editOk chainOk at h
  simp only [Bool.and_eq_true, decide_eq_true_eq] at h
  omega
theorem AInv.set1 {w : World} {X g : Nat} {cells : Array Value} {c : Ver} {wr : World} (h : AInv w X g cells c wr) (a : Int) : AInv w X g cells { c with next := a } (wr.setCell ⟨g, 1, none⟩ (.int .i64 a)) := by
  obtain ⟨h1, h2, h3, h4, vf, h5, h6⟩ := h
  exact ⟨h1.setCell (Nat.le_of_lt h4.1) _, blk_far h2 (Nat.ne_of_lt h4.1) _, blk_far h3 (Nat.ne_of_gt h4.2) _, h4, vf, h5.set1 a, Kd.R_far h6 (fun k hk => Nat.ne_of_gt hk.1) _⟩
theorem AInv.set2 {w : World} {X g : Nat} {cells : Array Value} {c : Ver} {wr : World} (h : AInv w X g cells c wr) (a : Int) : AInv w X g cells { c with log := a } (wr.setCell ⟨g, 2, none⟩ (.int .i64 a)) := by
  obtain ⟨h1, h2, h3, h4, vf, h5, h6⟩ := h
  exact ⟨h1.setCell (Nat.le_of_lt h4.1) _, blk_far h2 (Nat.ne_of_lt h4.1) _, blk_far h3 (Nat.ne_of_gt h4.2) _, h4, vf, h5.set2 a, Kd.R_far h6 (fun k hk => Nat.ne_of_gt hk.1) _⟩
theorem AInv.set3 {w : World} {X g : Nat} {cells : Array Value} {c : Ver} {wr : World} (h : AInv w X g cells c wr) (a : Int) : AInv w X g cells { c with last := a } (wr.setCell ⟨g, 3, none⟩ (.int .i64 a)) := by
  obtain ⟨h1, h2, h3, h4, vf, h5, h6⟩ := h
  exact ⟨h1.setCell (Nat.le_of_lt h4.1) _, blk_far h2 (Nat.ne_of_lt h4.1) _, blk_far h3 (Nat.ne_of_gt h4.2) _, h4, vf, h5.set3 a, Kd.R_far h6 (fun k hk => Nat.ne_of_gt hk.1) _⟩
theorem AInv.nums {w : World} {X g : Nat} {n l m : Int} {va vd : Value} {c : Ver} {wr : World} (h : AInv w X g #[.int .i64 n, .int .i64 l, .int .i64 m, va, vd] c wr) :
    wr.cell? ⟨X, 0, none⟩ = some (.pointer (some ⟨g, 0, none⟩)) ∧ wr.cell? ⟨w.heap.size, 0, none⟩ = some (.int .i64 n) ∧ wr.cell? ⟨w.heap.size, 1, none⟩ = some (.int .i64 l) ∧ wr.cell? ⟨w.heap.size, 2, none⟩ = some (.int .i64 m) ∧ wr.cell? ⟨g, 1, none⟩ = some (.int .i64 c.next) ∧ wr.cell? ⟨g, 2, none⟩ = some (.int .i64 c.log) ∧ wr.cell? ⟨g, 3, none⟩ = some (.int .i64 c.last) ∧
      wr.frozen? ⟨g, 1, none⟩ = false ∧ wr.frozen? ⟨g, 2, none⟩ = false ∧ wr.frozen? ⟨g, 3, none⟩ = false ∧ X ≠ g ∧ w.heap.size ≠ g := by
  obtain ⟨h1, h2, h3, h4, vf, h5, h6⟩ := h
  exact ⟨(blk_cell h3 0).trans rfl, (blk_cell h2 0).trans rfl, (blk_cell h2 1).trans rfl, (blk_cell h2 2).trans rfl, h5.cells.2.1, h5.cells.2.2.1, h5.cells.2.2.2, h5.free.2.1, h5.free.2.2.1, h5.free.2.2.2, Nat.ne_of_gt h4.2, Nat.ne_of_lt h4.1⟩
theorem far_cell (W : World) (a : Addr) (g j : Nat) (u : Value) (h : a.block ≠ g) : (W.setCell ⟨g, j, none⟩ u).cell? a = W.cell? a := World.cell?_setCell_other W _ _ u (fun e => h (by rw [← e]))
theorem AInv.lt {w : World} {X g : Nat} {cells : Array Value} {c : Ver} {wr : World} (h : AInv w X g cells c wr) : X < wr.heap.size := blk_lt h.x
end Go.Proofs.Ytjhijcehcklipaa.MVe
