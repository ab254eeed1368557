/-
  The law's function is walked: what is left is a plain statement.
-/
import Derived.Test.YtiplbhjllkfemaaMAllx15
import Derived.Test.YtiplbhjllkfemaaStrs
namespace Go.Proofs.Ytiplbhjllkfemaa.MAll
open Go.RowKit Go.Proofs.YtiplbhjllkfemaaW.PrintWords Go.Proofs.YtiplbhjllkfemaaW.PrintLast Go.Proofs.YtiplbhjllkfemaaW.PrintMore
def zha.Pure : Prop := ∀ (a0 : Int) (l1 : List ByteArray), (Lit.int .i64 a0).wf = true → (∀ s ∈ l1, s.size ≤ maxLen) → ∃ k, zha.f k a0 l1 = some true
theorem zha.walk (P : zha.Pure) (a0 : Int) (A1 : Option Addr) (c1 : Nat) (l1 : List ByteArray) (w : World) (w0 : (Lit.int .i64 a0).wf = true) (w1 : Kd.C Kd.string w A1 l1.length l1) (x1 : l1.length ≤ c1) (y1 : ∀ s ∈ l1, s.size ≤ maxLen) :
 Calls Try.prog 7 #[.int .i64 a0, .slice A1 l1.length c1] w fun e w' => e = .returned (.bool true) ∧ Below w.heap.size w w' := by
 obtain ⟨k, h⟩ := P a0 l1 w0 y1
 refine (zha.calls k a0 A1 c1 l1 true w w1 x1 h).mono ?_
 rintro e w' ⟨rfl, hd⟩
 exact ⟨rfl, hd⟩
end Go.Proofs.Ytiplbhjllkfemaa.MAll
