/-
  Versions: rows of tables as the sort sees them; a region whose callees lay blocks, walked once.
-/
import Derived.Test.YtjhijcehcklipaaZVeW8
import Derived.Shelf.SlSortCmp.WholeK
import Derived.Deep.QuietTactic
namespace Go.Proofs.Ytjhijcehcklipaa.MVe
open Go.RowKit Go.Proofs.YtjhijcehcklipaaW.PrintWords Go.Proofs.YtjhijcehcklipaaW.PrintLast Go.Proofs.YtjhijcehcklipaaW.PrintMore
set_option linter.unusedVariables false
set_option linter.unusedSimpArgs false
open Go.Sort (flatK size_flatK get_flatK HoldsK Holds putCells putRow putRowK mapBlock)

/-- A world that has grown above w. -/
structure BelowBy (w : World) where
  v : World
  h : Below w.heap.size w v
instance (w : World) : Inhabited (BelowBy w) := ⟨⟨w, Below.refl _ _⟩⟩
theorem wp_region_quiet_below {P : Program} {id : Nat} {Q : Exit → Act → World → Prop} {a : Act} {w : World} {l : List Oper} (hm : P.follows .mixedOrders = true) (hB : Region.lexB .any l.toArray = true)
    (h : wpQuiet P l.toArray (fun w' => ∃ p : BelowBy w, w' = p.v) (fun a' => ∀ w', (∃ p : BelowBy w, w' = p.v) → Q .normal a' w') l a) : (Code.region id l.toArray true).wp P Q a w :=
  wp_region_quiet (C := fun w' => ∃ p : BelowBy w, w' = p.v) hm hB ⟨⟨w.drew, below_drew (Below.refl _ _)⟩, rfl⟩ (by simpa using h)

/-- A table's cells. -/
def enc5 (x : S41) : List Value := [.int .i64 x.f0, .int .i64 x.f1, .int .i64 x.f2, .string x.f3, .string x.f4]
theorem enc5_len (x : S41) : (enc5 x).length = 5 := rfl
theorem enc5_one (x : S41) : ∀ v ∈ enc5 x, v.oneCell' = true := by
  intro v hv
  simp [enc5] at hv
  rcases hv with rfl | rfl | rfl | rfl | rfl <;> rfl
instance : Inhabited S41 := ⟨⟨0, 0, 0, ⟨#[]⟩, ⟨#[]⟩⟩⟩
theorem reps_flat {w : World} {b : Nat} {P : Nat → Prop} {xs : List S41} {inner : List Value} (hl : inner.length = xs.length * 5) (h : Reps (k41.M w b P) 5 xs inner) : inner = (flatK enc5 5 xs.toArray).toList := by
  refine List.ext_getElem (by rw [hl]; exact (Array.length_toList.trans (size_flatK enc5 5 xs.toArray)).symm) fun t h1 h2 => ?_
  have ht : t < xs.length * 5 := by omega
  have hj : t / 5 < xs.length := by omega
  have hM := h.2 (t / 5) _ (List.getElem?_eq_getElem hj)
  have e := k41_openM hM
  have e2 : (flatK enc5 5 xs.toArray).toList[t] = (enc5 xs[t / 5])[t % 5]! := by
    have := get_flatK enc5 5 xs.toArray t ht
    rw [getElem!_pos _ t (by rw [size_flatK]; exact ht)] at this
    rw [Array.getElem_toList, this]
    congr 2
    exact (getElem!_pos xs.toArray (t / 5) hj).trans (List.getElem_toArray ..)
  rw [e2]
  have e3 : inner[t] = ((inner.drop (t / 5 * 5)).take 5)[t % 5]'(by rw [List.length_take, List.length_drop]; omega) := by
    rw [List.getElem_take, List.getElem_drop]
    congr 1
    omega
  rw [e3]
  have e4 : (inner.drop (t / 5 * 5)).take 5 = enc5 xs[t / 5] := e
  rw [getElem!_pos _ _ (by rw [enc5_len]; omega)]
  exact List.getElem_of_eq e4 _
theorem flat_reps {w : World} {b : Nat} {P : Nat → Prop} (xs : List S41) : Reps (k41.M w b P) 5 xs (flatK enc5 5 xs.toArray).toList := by
  refine ⟨by rw [Array.length_toList, size_flatK]; rfl, fun j p hp => ?_⟩
  obtain ⟨hj, rfl⟩ := List.getElem?_eq_some_iff.1 hp
  have e : ((flatK enc5 5 xs.toArray).toList.drop (j * 5)).take 5 = enc5 xs[j] := by
    refine List.ext_getElem (by rw [List.length_take, List.length_drop, Array.length_toList, size_flatK, enc5_len]; show min 5 (xs.length * 5 - j * 5) = 5; omega) fun t h1 h2 => ?_
    have ht : t < 5 := h2
    rw [List.getElem_take, List.getElem_drop, Array.getElem_toList]
    have := get_flatK enc5 5 xs.toArray (j * 5 + t) (by show j * 5 + t < xs.length * 5; omega)
    rw [getElem!_pos _ _ (by rw [size_flatK]; show j * 5 + t < xs.length * 5; omega)] at this
    rw [this, show (j * 5 + t) / 5 = j by omega, show (j * 5 + t) % 5 = t by omega, getElem!_pos xs.toArray j hj, getElem!_pos _ _ (by rw [enc5_len]; exact ht)]
    rfl
  rw [e]
  exact k41_mkM _ _ _ _
/-- The sort's row. -/
theorem R_holds {w : World} {b g cap : Nat} {P : Nat → Prop} {xs : List S41} (h : Kd.R k41 41 w b P (.slice (some ⟨g, 0, none⟩) xs.length cap) xs) : HoldsK enc5 5 w g 0 xs.toArray ∧ g < w.heap.size := by
  obtain ⟨hok, inner, ⟨hl, ho⟩, hr⟩ := h
  rcases ho with ⟨ho, _⟩ | ⟨g', cap', cur, e, hg, hblk, hcap, hmax, hsz, hcut⟩
  · cases ho
  · cases e
    have hl' : inner.length = xs.length * 5 := hl
    have hsz' : cur.size = cap * 5 := hsz
    have hcut' : cur.toList.take (xs.length * 5) = inner := hcut
    refine ⟨fun j hj => ?_, blk_lt hblk⟩
    rw [size_flatK] at hj
    have hj' : j < xs.length * 5 := hj
    refine ⟨?_, blk_frozen hblk _⟩
    rw [Nat.zero_add, blk_cell hblk]
    have e := reps_flat hl' hr
    rw [← hcut'] at e
    have : cur[j]? = some (flatK enc5 5 xs.toArray)[j]! := by
      rw [getElem!_pos _ j (by rw [size_flatK]; exact hj), ← Array.getElem?_toList]
      have h2 : (cur.toList.take (xs.length * 5))[j]? = cur.toList[j]? := List.getElem?_take_of_lt hj'
      rw [← h2, e, Array.getElem?_toList, Array.getElem?_eq_getElem]
    exact this
theorem sorted_blk {w : World} {g n : Nat} {cur : Array Value} {t : TypeId} (d : Array S41) (os : Array Obj) (h : w.heap[g]? = some (.cells cur t (0, 0))) :
    (Go.Proofs.sortWorldK enc5 5 w g 0 n d os).heap[g]? = some (.cells (putCells id 0 (flatK enc5 5 d) cur) t (0, 0)) := by
  have hg := blk_lt h
  unfold Go.Proofs.sortWorldK Go.Sort.grow putRowK putRow mapBlock
  show ((w.heap.modify g _) ++ os)[g]? = _
  rw [Array.getElem?_append_left (by rw [Array.size_modify]; exact hg), Array.getElem?_modify, if_pos rfl, h]
  rfl
theorem sorted_other {w : World} {g n k : Nat} (d : Array S41) (os : Array Obj) (hk : k < w.heap.size) (hne : k ≠ g) : (Go.Proofs.sortWorldK enc5 5 w g 0 n d os).heap[k]? = w.heap[k]? := by
  unfold Go.Proofs.sortWorldK Go.Sort.grow putRowK putRow mapBlock
  show ((w.heap.modify g _) ++ os)[k]? = _
  rw [Array.getElem?_append_left (by rw [Array.size_modify]; exact hk), Array.getElem?_modify, if_neg (Ne.symm hne)]
theorem putCells_take (d cur : Array Value) (h : d.size ≤ cur.size) : (putCells id 0 d cur).toList.take d.size = d.toList := by
  refine List.ext_getElem (by rw [List.length_take, Array.length_toList, Array.length_toList]; unfold putCells; rw [Array.size_mapIdx]; omega) fun t h1 h2 => ?_
  rw [List.getElem_take, Array.getElem_toList, Array.getElem_toList]
  have ht : t < d.size := by rw [Array.length_toList] at h2; exact h2
  unfold putCells
  rw [Array.getElem_mapIdx, if_pos ⟨Nat.zero_le _, by omega⟩]
  show d[t - 0]! = d[t]
  rw [Nat.sub_zero, getElem!_pos d t ht]
theorem sorted_kept {w : World} {g n : Nat} (d : Array S41) (os : Array Obj) : Kept w (Go.Proofs.sortWorldK enc5 5 w g 0 n d os) (fun k => k = g) := by
  refine ⟨?_, fun i hi hn => sorted_other d os hi hn⟩
  unfold Go.Proofs.sortWorldK Go.Sort.grow putRowK putRow mapBlock
  show w.heap.size ≤ ((w.heap.modify g _) ++ os).size
  rw [Array.size_append, Array.size_modify]
  omega
theorem sorted_below {B : Nat} {w0 w : World} {g n : Nat} (d : Array S41) (os : Array Obj) (h : Below B w0 w) (hB : B ≤ w.heap.size) (hg : B ≤ g) : Below B w0 (Go.Proofs.sortWorldK enc5 5 w g 0 n d os) :=
  ⟨h.os, h.tape, h.output, Nat.le_trans h.size (sorted_kept d os).1, fun i hi => (sorted_other d os (by omega) (by omega)).trans (h.block i hi)⟩
/-- Behind the sort. -/
theorem R_sorted {w : World} {b g cap n : Nat} {P : Nat → Prop} {xs : List S41} {d : Array S41} (os : Array Obj) (hd : d.size = xs.length) (h : Kd.R k41 41 w b P (.slice (some ⟨g, 0, none⟩) xs.length cap) xs) :
    Kd.R k41 41 (Go.Proofs.sortWorldK enc5 5 w g 0 n d os) b P (.slice (some ⟨g, 0, none⟩) xs.length cap) d.toList ∧ Kept w (Go.Proofs.sortWorldK enc5 5 w g 0 n d os) (fun k => k = g) := by
  obtain ⟨hok, inner, ⟨hl, ho⟩, hr⟩ := h
  rcases ho with ⟨ho, _⟩ | ⟨g', cap', cur, e, hg, hblk, hcap, hmax, hsz, hcut⟩
  · cases ho
  · cases e
    have hsz' : cur.size = cap * 5 := hsz
    have hdl : d.toList.length = xs.length := by rw [Array.length_toList, hd]
    have hfs : (flatK enc5 5 d).size = xs.length * 5 := by rw [size_flatK, hd]
    have hb := sorted_blk (n := n) d os hblk
    refine ⟨⟨hok, (flatK enc5 5 d).toList, ⟨?_, .inr ⟨g, cap, _, by rw [hdl], hg, hb, by rw [hdl]; exact hcap, hmax, ?_, ?_⟩⟩, ?_⟩, ?_⟩
    · rw [Array.length_toList, hfs, hdl]; rfl
    · show (putCells id 0 (flatK enc5 5 d) cur).size = _
      unfold putCells
      rw [Array.size_mapIdx]; exact hsz
    · rw [hdl]
      show (putCells id 0 (flatK enc5 5 d) cur).toList.take (xs.length * 5) = _
      rw [← hfs, putCells_take _ _ (by rw [hfs, hsz']; omega)]
    · exact flat_reps d.toList
    · exact sorted_kept d os
end Go.Proofs.Ytjhijcehcklipaa.MVe
