/-
  The methods of a stream, walked: what they do to its block and its rows.
-/
import Derived.Test.YtiplbhjllkfemaaZMStx13
import Derived.Test.YtiplbhjllkfemaaZStm
namespace Go.Proofs.Ytiplbhjllkfemaa.MSt
open Go.RowKit Go.Proofs.YtiplbhjllkfemaaW.PrintWords Go.Proofs.YtiplbhjllkfemaaW.PrintLast Go.Proofs.YtiplbhjllkfemaaW.PrintMore
attribute [local go_sem] max2_int min2_int max_two min_two max_three min_three max_four min_four
open Go.Proofs.Ytiplbhjllkfemaa.Stm (S S0)
set_option linter.unusedVariables false
set_option linter.unusedSimpArgs false

/-- A stream's block. -/
def SBlk (w : World) (g : Nat) (vh : Value) (s : S) : Prop := w.heap[g]? = some (.cells #[.string s.rest, vh, .int .i64 s.marks, .int .i64 s.err, .bool s.closed] 66 (0, 0))
theorem SBlk.cells {w : World} {g : Nat} {vh : Value} {s : S} (h : SBlk w g vh s) : w.cell? ⟨g, 0, none⟩ = some (.string s.rest) ∧ w.cell? ⟨g, 1, none⟩ = some vh ∧ w.cell? ⟨g, 2, none⟩ = some (.int .i64 s.marks) ∧ w.cell? ⟨g, 3, none⟩ = some (.int .i64 s.err) ∧ w.cell? ⟨g, 4, none⟩ = some (.bool s.closed) :=
  ⟨(blk_cell h 0).trans rfl, (blk_cell h 1).trans rfl, (blk_cell h 2).trans rfl, (blk_cell h 3).trans rfl, (blk_cell h 4).trans rfl⟩
theorem SBlk.free {w : World} {g : Nat} {vh : Value} {s : S} (h : SBlk w g vh s) : w.frozen? ⟨g, 0, none⟩ = false ∧ w.frozen? ⟨g, 1, none⟩ = false ∧ w.frozen? ⟨g, 2, none⟩ = false ∧ w.frozen? ⟨g, 3, none⟩ = false ∧ w.frozen? ⟨g, 4, none⟩ = false :=
  ⟨blk_frozen h 0, blk_frozen h 1, blk_frozen h 2, blk_frozen h 3, blk_frozen h 4⟩
theorem SBlk.set0 {w : World} {g : Nat} {vh : Value} {s : S} (h : SBlk w g vh s) (r : ByteArray) : SBlk (w.setCell ⟨g, 0, none⟩ (.string r)) g vh { s with rest := r } := (blk_set h 0 _).trans rfl
theorem SBlk.set1 {w : World} {g : Nat} {vh : Value} {s : S} (h : SBlk w g vh s) (v : Value) (l : List Int) : SBlk (w.setCell ⟨g, 1, none⟩ v) g v { s with held := l } := (blk_set h 1 _).trans rfl
theorem SBlk.set2 {w : World} {g : Nat} {vh : Value} {s : S} (h : SBlk w g vh s) (m : Int) : SBlk (w.setCell ⟨g, 2, none⟩ (.int .i64 m)) g vh { s with marks := m } := (blk_set h 2 _).trans rfl
theorem SBlk.set3 {w : World} {g : Nat} {vh : Value} {s : S} (h : SBlk w g vh s) (m : Int) : SBlk (w.setCell ⟨g, 3, none⟩ (.int .i64 m)) g vh { s with err := m } := (blk_set h 3 _).trans rfl
theorem SBlk.set4 {w : World} {g : Nat} {vh : Value} {s : S} (h : SBlk w g vh s) (m : Bool) : SBlk (w.setCell ⟨g, 4, none⟩ (.bool m)) g vh { s with closed := m } := (blk_set h 4 _).trans rfl

set_option maxHeartbeats 8000000 in
set_option maxRecDepth 100000 in
theorem fail.calls (g : Nat) (vh : Value) (s : S) (e : Int) (w : World) (h : SBlk w g vh s) :
    Calls Try.prog 33 #[.pointer (some ⟨g, 0, none⟩), .int .i64 e] w fun en w' => en = .returned (.int .i64 e) ∧ w' = (((w.setCell ⟨g, 3, none⟩ (.int .i64 e)).setCell ⟨g, 1, none⟩ (.slice none 0 0)).setCell ⟨g, 0, none⟩ (.string ⟨#[]⟩)).setCell ⟨g, 2, none⟩ (.int .i64 0) := by
  obtain ⟨c0, c1, c2, c3, c4⟩ := h.cells
  obtain ⟨f0, f1, f2, f3, f4⟩ := h.free
  clear h
  go_enter Try.func33, Try.ntmps33
  go_wp2
  go_ret
  exact ⟨rfl, rfl⟩
end Go.Proofs.Ytiplbhjllkfemaa.MSt
