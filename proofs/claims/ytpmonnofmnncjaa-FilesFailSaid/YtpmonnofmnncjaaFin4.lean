/-
  A law of two numbers from 0 to 20: told at each of them, and at those that its guard lets through.
-/
import Derived.Test.YtpmonnofmnncjaaEvFs
namespace Go.Proofs.Ytpmonnofmnncjaa.Fin4
noncomputable def allF (N : Nat) (f : Nat → Bool) : Bool := Nat.rec (motive := fun _ => Bool) true (fun i ih => Ev.bc (f i) ih false) N
theorem allF_spec {N : Nat} {f : Nat → Bool} (h : allF N f = true) : ∀ i, i < N → f i = true := by
  induction N with
  | zero => intro i hi; cases hi
  | succ N ih =>
    intro i hi
    change Ev.bc (f N) (allF N f) false = true at h
    cases hf : f N with
    | false => rw [hf] at h; cases h
    | true =>
      rw [hf] at h
      by_cases q : i = N
      · rw [q]; exact hf
      · exact ih h i (by omega)
noncomputable def run (n k : Int) : Bool := Ev.tellsX (Ev.callX Try.prog Ev.fsO 100000 100 4 [.n .i64 n, .n .i64 k] ⟨.nil, 0⟩)
theorem nneg (m : Nat) (k : Int) : run (.negSucc m) k = true := by kernel_rfl
theorem nbig (m : Nat) (k : Int) : run (.ofNat (m + 21)) k = true := by kernel_rfl
theorem kneg (m : Nat) : allF 21 (fun n => run (.ofNat n) (.negSucc m)) = true := by kernel_rfl
theorem kbig (m : Nat) : allF 21 (fun n => run (.ofNat n) (.ofNat (m + 21))) = true := by kernel_rfl
end Go.Proofs.Ytpmonnofmnncjaa.Fin4
