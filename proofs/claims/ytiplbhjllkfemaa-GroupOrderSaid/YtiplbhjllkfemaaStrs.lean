/-
  A slice of texts that came in, as one list.
-/
import Derived.Test.YtiplbhjllkfemaaV0
import Derived.SliceStrings
import Derived.OpenShut
namespace Go.Proofs.Ytiplbhjllkfemaa.Strs
open Go.ChangeShapes Go.WideShapes Go.RowKit Go.Proofs.YtiplbhjllkfemaaW.PrintWords
theorem opened {H : Type} {enc : TypeId × Value → H} {P : Program} {w : World} {base t e fuel len cap : Nat} {spare : Nat → Bool} {held : Bool} {a : Option Addr} {x : DataW H × List MemPlace}
    (ht : P.underlying t = some (.slice e)) (he : P.underlying e = some .string) (hc : P.cellsOf e = 1) (hs : ∀ b, spare b = true)
    (h : DataW.trod enc P w base spare held fuel t (Value.slice a len cap).cells.toList = some x) :
    ∃ l : List ByteArray, l.length = len ∧ Kd.C Kd.string w a l.length l ∧ l.length ≤ cap ∧ (∀ s ∈ l, s.size ≤ maxLen) := by
  have h0 : DataW.trod enc P w base spare held fuel t [Value.slice a len cap] = some x := h
  rcases open_strings ht he hc h0 with ⟨hcs, _⟩ | ⟨ad, len', cap', ss, hcs, _, hl, hm, hz, _, hcell, hsz⟩
  · simp at hcs
    obtain ⟨rfl, rfl, rfl⟩ := hcs
    exact ⟨[], rfl, Kd.C_of_reads (d := ByteArray.empty) (h1 := fun _ => rfl) ⟨rfl, by simp, fun h => absurd h (by simp)⟩, Nat.le_refl _, by simp⟩
  · simp at hcs
    obtain ⟨rfl, rfl, rfl⟩ := hcs
    rw [hs, if_pos rfl] at hz
    have hlt : (ss.take len).length = len := by rw [List.length_take]; omega
    refine ⟨ss.take len, hlt, Kd.C_of_reads (d := ByteArray.empty) (h1 := fun _ => rfl) ⟨rfl, ?_, fun _ => ⟨ad, rfl, fun j hj => ?_⟩⟩, by omega, fun s hs' => hsz s (List.mem_of_mem_take hs')⟩
    · unfold maxLen at hm; omega
    · rw [hcell j (by omega)]
      rw [List.getD_eq_getElem?_getD, List.getD_eq_getElem?_getD, List.getElem?_take_of_lt (by omega)]
end Go.Proofs.Ytiplbhjllkfemaa.Strs
