/-
  A row of edits that came in, as a list.
-/
import Derived.Test.YtjhijcehcklipaaZVeR9
import Derived.Deep.Slices
import Derived.OpenShut
namespace Go.Proofs.Ytjhijcehcklipaa.MVe
open Go.RowKit Go.Proofs.YtjhijcehcklipaaW.PrintWords Go.ChangeShapes Go.WideShapes Go.Deep
set_option linter.unusedVariables false

section
variable {H : Type} {enc : TypeId × Value → H} {w : World} {spare : Nat → Bool} {held : Bool}
theorem take1 {cs : List Value} {i : Nat} {u : Value} {l : List Value} (h : (cs.drop i).take 1 = [u]) : cs[i]? = some u := by
  have h2 : ((cs.drop i).take 1)[0]? = some u := by rw [h]; rfl
  rw [List.getElem?_take_of_lt (by omega), List.getElem?_drop] at h2
  simpa using h2
theorem cells41 : Try.prog.cellsOf 41 = 5 := by kernel_rfl
theorem cells45 : Try.prog.cellsOf 45 = 5 := by kernel_rfl
theorem cells2 : Try.prog.cellsOf 2 = 1 := by kernel_rfl
theorem cells3 : Try.prog.cellsOf 3 = 1 := by kernel_rfl
theorem cells9 : Try.prog.cellsOf 9 = 1 := by kernel_rfl
theorem cells39 : Try.prog.cellsOf 39 = 1 := by kernel_rfl
theorem cells43 : Try.prog.cellsOf 43 = 1 := by kernel_rfl
/-- A struct's fields of one cell each. -/
theorem field1 {t : TypeId} {fs : Array Field} {fuel : Nat} {cs : List Value} {x : DataW H × List MemPlace} (ht : Try.prog.underlying t = some (.struct fs)) (h : DataW.trod enc Try.prog w 0 spare held fuel t cs = some x) :
    ∃ n, cs.length = Try.prog.cellsOf t ∧ ∀ (i : Nat) (f : Field), fs[i]? = some f → Try.prog.cellsOf f.type = 1 → f.offset < cs.length → ∃ u y, cs[f.offset]? = some u ∧ DataW.trod enc Try.prog w 0 spare held n f.type [u] = some y := by
  obtain ⟨xs, n, _, rfl, hl, hlen, hf⟩ := DataW.trod_struct ht h
  refine ⟨n, hl, fun i f hi hc ho => ?_⟩
  have hlt : i < fs.size := (Array.getElem?_eq_some_iff.1 hi).1
  have g := hf i f hi
  rw [hc, List.getElem?_eq_getElem (show i < xs.length by omega)] at g
  have e : (cs.drop f.offset).take 1 = [cs[f.offset]] := by rw [List.drop_eq_getElem_cons ho]; rfl
  rw [e] at g
  exact ⟨cs[f.offset], _, List.getElem?_eq_getElem ho, g⟩
theorem open41 {fuel : Nat} {cs : List Value} {x : DataW H × List MemPlace} (h : DataW.trod enc Try.prog w 0 spare held fuel 41 cs = some x) : ∃ y : S41, cs = [.int .i64 y.f0, .int .i64 y.f1, .int .i64 y.f2, .string y.f3, .string y.f4] := by
  obtain ⟨n, hl, hf⟩ := field1 Try.underlying41 h
  rw [cells41] at hl
  match cs, hl with
  | [c0, c1, c2, c3, c4], _ =>
    obtain ⟨u0, y0, e0, h0⟩ := hf 0 _ rfl cells2 (by simp)
    obtain ⟨u1, y1, e1, h1⟩ := hf 1 _ rfl cells3 (by simp)
    obtain ⟨u2, y2, e2, h2⟩ := hf 2 _ rfl cells3 (by simp)
    obtain ⟨u3, y3, e3, h3⟩ := hf 3 _ rfl cells9 (by simp)
    obtain ⟨u4, y4, e4, h4⟩ := hf 4 _ rfl cells9 (by simp)
    injection e0 with e0; injection e1 with e1; injection e2 with e2; injection e3 with e3; injection e4 with e4
    obtain ⟨a0, f0, -, -⟩ := DataW.trod_int Try.underlying2 h0
    obtain ⟨a1, f1, -, -⟩ := DataW.trod_int Try.underlying3 h1
    obtain ⟨a2, f2, -, -⟩ := DataW.trod_int Try.underlying3 h2
    obtain ⟨a3, f3, -, -⟩ := DataW.trod_string Try.underlying9 h3
    obtain ⟨a4, f4, -, -⟩ := DataW.trod_string Try.underlying9 h4
    refine ⟨⟨a0, a1, a2, a3, a4⟩, ?_⟩
    subst e0; subst e1; subst e2; subst e3; subst e4
    injection f0 with f0; injection f1 with f1; injection f2 with f2; injection f3 with f3; injection f4 with f4
    rw [f0, f1, f2, f3, f4]
theorem choose_list {α : Type} {R : Nat → α → Prop} : ∀ n : Nat, (∀ i, i < n → ∃ x, R i x) → ∃ xs : List α, xs.length = n ∧ ∀ i (h : i < xs.length), R i xs[i]
  | 0, _ => ⟨[], rfl, fun i h => absurd h (by simp)⟩
  | n + 1, h => by
    obtain ⟨xs, hl, hx⟩ := choose_list n (fun i hi => h i (by omega))
    obtain ⟨x, hxn⟩ := h n (by omega)
    refine ⟨xs ++ [x], by simp [hl], fun i hi => ?_⟩
    by_cases q : i < xs.length
    · rw [List.getElem_append_left q]; exact hx i q
    · have e : i = n := by simp at hi; omega
      subst e
      rw [List.getElem_append_right (by omega)]
      simpa [hl] using hxn
theorem openFiles {fuel : Nat} {u : Value} {x : DataW H × List MemPlace} (hs : ∀ b, spare b = true) (h : DataW.trod enc Try.prog w 0 spare held fuel 39 [u] = some x) :
    ∃ A c l, u = .slice A l.length c ∧ Kd.C k41 w A l.length l ∧ l.length ≤ c := by
  rcases open_slice Try.underlying39 h with ⟨hc, _⟩ | ⟨a, len, cap, m, n, D, Pl, hc, _, hl, hm, hmm, _, hel⟩
  · injection hc with hc
    exact ⟨none, 0, [], hc, Kd.C_nil _ _, Nat.le_refl _⟩
  · injection hc with hc
    rw [hs, if_pos rfl] at hmm
    rw [cells41] at hel
    obtain ⟨l, hll, hR⟩ := choose_list (R := fun i (y : S41) => ∀ j u, ([.int .i64 y.f0, .int .i64 y.f1, .int .i64 y.f2, .string y.f3, .string y.f4] : List Value)[j]? = some u → w.cell? (a.add (i * 5 + j)) = some u) len (fun i hi => by
      obtain ⟨cs', h1, h2⟩ := hel i (by omega)
      obtain ⟨y, rfl⟩ := open41 h2
      obtain ⟨_, _, h3⟩ := World.cells?_some h1
      refine ⟨y, fun j u hj => ?_⟩
      have hj5 : j < 5 := (List.getElem?_eq_some_iff.1 hj).1
      rw [← hj, ← h3 j hj5]
      congr 1
      exact (Addr.add_add ..).symm)
    subst hll
    refine ⟨some a, cap, l, hc, ⟨rfl, by unfold maxLen at hm; omega, fun _ => ⟨a, rfl, fun j p hp => ?_⟩⟩, hl⟩
    obtain ⟨hj, rfl⟩ := List.getElem?_eq_some_iff.1 hp
    exact ⟨_, rfl, k41_mk w _, hR j hj⟩
theorem openNums {fuel : Nat} {u : Value} {x : DataW H × List MemPlace} (hs : ∀ b, spare b = true) (h : DataW.trod enc Try.prog w 0 spare held fuel 43 [u] = some x) :
    ∃ A c, ∃ l : List Int, u = .slice A l.length c ∧ Kd.C (Kd.int .i64) w A l.length l ∧ l.length ≤ c := by
  rcases open_slice Try.underlying43 h with ⟨hc, _⟩ | ⟨a, len, cap, m, n, D, Pl, hc, _, hl, hm, hmm, _, hel⟩
  · injection hc with hc
    exact ⟨none, 0, [], hc, Kd.C_nil _ _, Nat.le_refl _⟩
  · injection hc with hc
    rw [hs, if_pos rfl] at hmm
    rw [cells2] at hel
    obtain ⟨l, hll, hR⟩ := choose_list (R := fun i (y : Int) => w.cell? (a.add i) = some (.int .i64 y)) len (fun i hi => by
      obtain ⟨cs', h1, h2⟩ := hel i (by omega)
      obtain ⟨y, rfl, -, -⟩ := DataW.trod_int Try.underlying2 h2
      obtain ⟨_, _, h3⟩ := World.cells?_some h1
      refine ⟨y, ?_⟩
      have := h3 0 (by omega)
      rw [Nat.mul_one] at this
      rw [Addr.add_add] at this
      exact this)
    subst hll
    refine ⟨some a, cap, l, hc, Kd.C_of_reads (enc := Value.int .i64) (d := (0 : Int)) (h1 := fun _ => rfl) ⟨rfl, by unfold maxLen at hm; omega, fun _ => ⟨a, rfl, fun i hi => ?_⟩⟩, hl⟩
    rw [hR i hi, List.getD_eq_getElem?_getD, List.getElem?_eq_getElem hi]
    rfl
theorem open45 {fuel : Nat} {cs : List Value} {x : DataW H × List MemPlace} (hs : ∀ b, spare b = true) (h : DataW.trod enc Try.prog w 0 spare held fuel 45 cs = some x) :
    ∃ e : Ed, EdIn w e ∧ cs = [.int .i64 e.n, .int .i64 e.l, .int .i64 e.m, .slice e.Aa e.adds.length e.ca, .slice e.Ad e.dels.length e.cd] := by
  obtain ⟨n, hl, hf⟩ := field1 Try.underlying45 h
  rw [cells45] at hl
  match cs, hl with
  | [c0, c1, c2, c3, c4], _ =>
    obtain ⟨u0, y0, e0, h0⟩ := hf 0 _ rfl cells2 (by simp)
    obtain ⟨u1, y1, e1, h1⟩ := hf 1 _ rfl cells2 (by simp)
    obtain ⟨u2, y2, e2, h2⟩ := hf 2 _ rfl cells2 (by simp)
    obtain ⟨u3, y3, e3, h3⟩ := hf 3 _ rfl cells39 (by simp)
    obtain ⟨u4, y4, e4, h4⟩ := hf 4 _ rfl cells43 (by simp)
    injection e0 with e0; injection e1 with e1; injection e2 with e2; injection e3 with e3; injection e4 with e4
    obtain ⟨a0, f0, -, -⟩ := DataW.trod_int Try.underlying2 h0
    obtain ⟨a1, f1, -, -⟩ := DataW.trod_int Try.underlying2 h1
    obtain ⟨a2, f2, -, -⟩ := DataW.trod_int Try.underlying2 h2
    obtain ⟨Aa, ca, la, f3, k1, k2⟩ := openFiles hs h3
    obtain ⟨Ad, cd, ld, f4, k3, k4⟩ := openNums hs h4
    refine ⟨⟨a0, a1, a2, Aa, ca, la, Ad, cd, ld⟩, ⟨k1, k2, k3, k4⟩, ?_⟩
    subst e0; subst e1; subst e2; subst e3; subst e4
    injection f0 with f0; injection f1 with f1; injection f2 with f2
    rw [f0, f1, f2, f3, f4]
theorem openEds {fuel : Nat} {u : Value} {x : DataW H × List MemPlace} (hs : ∀ b, spare b = true) (h : DataW.trod enc Try.prog w 0 spare held fuel 56 [u] = some x) :
    ∃ A c es, u = .slice A es.length c ∧ EdAt w A es ∧ es.length ≤ c := by
  rcases open_slice Try.underlying56 h with ⟨hc, _⟩ | ⟨a, len, cap, m, n, D, Pl, hc, _, hl, hm, hmm, _, hel⟩
  · injection hc with hc
    exact ⟨none, 0, [], hc, ⟨by decide, fun j hj => absurd hj (by simp)⟩, Nat.le_refl _⟩
  · injection hc with hc
    rw [hs, if_pos rfl] at hmm
    rw [cells45] at hel
    obtain ⟨l, hll, hR⟩ := choose_list (R := fun i (e : Ed) => EdIn w e ∧ ∀ j u, ([.int .i64 e.n, .int .i64 e.l, .int .i64 e.m, .slice e.Aa e.adds.length e.ca, .slice e.Ad e.dels.length e.cd] : List Value)[j]? = some u → w.cell? ((a.add (i * 5)).add j) = some u) len (fun i hi => by
      obtain ⟨cs', h1, h2⟩ := hel i (by omega)
      obtain ⟨e, he, rfl⟩ := open45 hs h2
      obtain ⟨_, _, h3⟩ := World.cells?_some h1
      refine ⟨e, he, fun j u hj => ?_⟩
      have hj5 : j < 5 := (List.getElem?_eq_some_iff.1 hj).1
      rw [← hj, ← h3 j hj5])
    subst hll
    refine ⟨some a, cap, l, hc, ⟨by unfold maxLen at hm; omega, fun j hj => ⟨a, rfl, ?_⟩⟩, hl⟩
    obtain ⟨he, hc5⟩ := hR j hj
    have spot : ∀ (b : Addr) i u, w.cell? (b.add i) = some u → w.cell? ⟨b.block, b.off + i, none⟩ = some u := fun b i u hu => by
      have e : b.add i = ⟨b.block, b.off + i, none⟩ := by
        by_cases h0 : i = 0
        · subst h0
          have h1 : b.add 0 = b := by simp [Addr.add]
          rw [h1] at hu ⊢
          have h2 := World.cell?_spot hu
          cases b
          simp only at h2
          subst h2
          rfl
        · simp [Addr.add, h0]
      rw [← e]; exact hu
    have z := hc5 0 _ rfl
    rw [show (a.add (j * 5)).add 0 = a.add (j * 5) by simp [Addr.add]] at z
    exact ⟨z, spot _ 1 _ (hc5 1 _ rfl), spot _ 2 _ (hc5 2 _ rfl), spot _ 3 _ (hc5 3 _ rfl), spot _ 4 _ (hc5 4 _ rfl), he⟩
end
end Go.Proofs.Ytjhijcehcklipaa.MVe
