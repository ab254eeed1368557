/-
  The law's function is walked: what is left is a plain statement.
-/
import Derived.Test.YtiplbhjllkfemaaMAllx18
import Derived.Test.YtiplbhjllkfemaaStrs
namespace Go.Proofs.Ytiplbhjllkfemaa.MAll
open Go.RowKit Go.Proofs.YtiplbhjllkfemaaW.PrintWords Go.Proofs.YtiplbhjllkfemaaW.PrintLast Go.Proofs.YtiplbhjllkfemaaW.PrintMore
def incipitlaw6_KeyChain.Pure : Prop := ∀ (l0 : List ByteArray), (∀ s ∈ l0, s.size ≤ maxLen) → ∃ k, incipitlaw6_KeyChain.f k l0 = some true
theorem incipitlaw6_KeyChain.walk (P : incipitlaw6_KeyChain.Pure) (A0 : Option Addr) (c0 : Nat) (l0 : List ByteArray) (w : World) (w0 : Kd.C Kd.string w A0 l0.length l0) (x0 : l0.length ≤ c0) (y0 : ∀ s ∈ l0, s.size ≤ maxLen) :
 Calls Try.prog 3 #[.slice A0 l0.length c0] w fun e w' => e = .returned (.bool true) ∧ Below w.heap.size w w' := by
 obtain ⟨k, h⟩ := P l0 y0
 refine (incipitlaw6_KeyChain.calls k A0 c0 l0 true w w0 x0 h).mono ?_
 rintro e w' ⟨rfl, hd⟩
 exact ⟨rfl, hd⟩
end Go.Proofs.Ytiplbhjllkfemaa.MAll
