/-
  Facts on bits that the two texts of First use; no program in sight.
-/
import Derived.Test.YtiplbhjllkfemaaZUtf
namespace Go.Proofs.Ytiplbhjllkfemaa.Utf
open Go.RowKit
theorem wraps_i64 (n : Int) (h0 : 0 ≤ n) (h1 : n < 2 ^ 62) : IntKind.i64.wrap n = n := by rw [IntKind.wrap_i64]; omega
theorem i64_or6 (x y : Int) (hx0 : 0 ≤ x) (hx : x % 64 = 0) (hx1 : x < 4611686018427387904) (h0 : 0 ≤ y) (h1 : y < 64) : bits .or .i64 x y = x + y :=
  bits_join .i64 62 (by decide) wraps_i64 6 x y hx0 hx hx1 h0 h1 (by omega)
theorem i64_and63 (x : Int) (h0 : 0 ≤ x) (h1 : x < 4611686018427387904) : bits .and .i64 x 63 = x % 64 := bits_mask .i64 62 (by decide) wraps_i64 6 (by decide) x h0 h1
set_option maxRecDepth 100000 in
theorem nat_192 : ∀ n : Fin 256, ((n.val &&& 192) = 128 ↔ (128 ≤ n.val ∧ n.val < 192)) := by decide
theorem u8_192 (x : Int) (h0 : 0 ≤ x) (h1 : x < 256) : bits .and .u8 x 192 = 128 ↔ tail x := by
  rw [u8_and x 192 h0 h1 (by decide) (by decide)]
  have := nat_192 ⟨x.toNat, by omega⟩
  simp only at this
  unfold tail
  have e : (192 : Int).toNat = 192 := rfl
  rw [e]
  constructor
  · intro h; have h' : x.toNat &&& 192 = 128 := by exact_mod_cast h
    have := this.1 h'; omega
  · intro h; have h' := this.2 (by omega); rw [h']; rfl
end Go.Proofs.Ytiplbhjllkfemaa.Utf
