/-
  So many marks behind one another: told at each number that the guard lets in.
-/
import Derived.Test.YtpmonnofmnncjaaEvMemo
import Derived.Test.YtpmonnofmnncjaaEvY
namespace Go.Proofs.Ytpmonnofmnncjaa.Marks
noncomputable def allF (N : Nat) (f : Nat → Bool) : Bool := Nat.rec (motive := fun _ => Bool) true (fun i ih => Ev.bc (f i) ih false) N
theorem allF_spec {N : Nat} {f : Nat → Bool} (h : allF N f = true) : ∀ i, i < N → f i = true := by
  induction N with
  | zero => intro i hi; cases hi
  | succ N ih =>
    intro i hi
    change Ev.bc (f N) (allF N f) false = true at h
    cases hf : f N with
    | false => rw [hf] at h; cases h
    | true =>
      rw [hf] at h
      by_cases q : i = N
      · rw [q]; exact hf
      · exact ih h i (by omega)
/-- The functions whose calls are kept in mind. -/
noncomputable def inG (g : Nat) : Bool := Bool.rec (motive := fun _ => Bool) (Nat.beq g 50) true (Nat.beq g 51)
noncomputable def C0 : Nat → List Ev.AV → Ev.AH → Option (Ev.AV × Ev.AH) := Ev.callV Try.prog (fun _ _ _ => none) 100000 100
theorem hm : Try.prog.follows .mixedOrders = true := by kernel_rfl
theorem sims_C0 : Ev.Sims Try.prog C0 := by
  unfold C0
  rw [Ev.callV_eq, Ev.callX_eq Try.prog hm (Ev.sims_none Try.prog)]
  exact Ev.sims_callO Try.prog hm 100000 (Ev.sims_none Try.prog) 100
abbrev row (n : Nat) : Ev.Sm := .row [.n .i64 (.ofNat n)] 1 1 0
abbrev val (n : Nat) : Ev.Sm := .val (.n .i64 (.ofNat n))
theorem t0 : Ev.sumR (C0 50 [.n .i64 (.ofNat 769)] ⟨.nil, 0⟩) = some (row 769) := by kernel_rfl
theorem t1 : Ev.sumR (C0 50 [.n .i64 (.ofNat 120)] ⟨.nil, 0⟩) = some (row 120) := by kernel_rfl
theorem t2 : Ev.sumR (C0 50 [.n .i64 (.ofNat 97)] ⟨.nil, 0⟩) = some (row 97) := by kernel_rfl
theorem t3 : Ev.sumR (C0 51 [.n .i64 (.ofNat 769)] ⟨.nil, 0⟩) = some (val 230) := by kernel_rfl
theorem t4 : Ev.sumR (C0 51 [.n .i64 (.ofNat 120)] ⟨.nil, 0⟩) = some (val 0) := by kernel_rfl
theorem t5 : Ev.sumR (C0 51 [.n .i64 (.ofNat 97)] ⟨.nil, 0⟩) = some (val 0) := by kernel_rfl
def tab : List (Nat × Nat × Ev.Sm) := [(50, 769, row 769), (51, 769, val 230), (51, 120, val 0), (51, 97, val 0), (50, 120, row 120), (50, 97, row 97)]
theorem tab_ok (g m : Nat) (s : Ev.Sm) (h : (g, m, s) ∈ tab) : Ev.sumR (C0 g [.n .i64 (.ofNat m)] ⟨.nil, 0⟩) = some s := by
  unfold tab at h
  simp only [List.mem_cons, List.not_mem_nil, or_false, Prod.mk.injEq] at h
  rcases h with ⟨rfl, rfl, rfl⟩ | ⟨rfl, rfl, rfl⟩ | ⟨rfl, rfl, rfl⟩ | ⟨rfl, rfl, rfl⟩ | ⟨rfl, rfl, rfl⟩ | ⟨rfl, rfl, rfl⟩
  · exact t0
  · exact t3
  · exact t4
  · exact t5
  · exact t1
  · exact t2
noncomputable def orc : Nat → List Ev.AV → Ev.AH → Option (Ev.AV × Ev.AH) := Ev.tabX inG tab
theorem sims_orc : Ev.Sims Try.prog orc := Ev.sims_tab sims_C0 inG tab tab_ok
noncomputable def run (n : Int) (b : Bool) : Bool := Ev.tellsX (Ev.callV Try.prog orc 100000 100 5 [.n .i64 n, .b b] ⟨.nil, 0⟩)
theorem run_told (n : Int) (b : Bool) (h : run n b = true) : Ev.told (Ev.callO Try.prog orc 100000 100 5 [.n .i64 n, .b b] ⟨.nil, 0⟩) = true := by
  unfold run at h
  rw [Ev.callV_eq] at h
  exact Ev.told_of Try.prog hm sims_orc 100000 100 5 _ _ h
theorem nneg (m : Nat) (b : Bool) : run (.negSucc m) b = true := by kernel_rfl
theorem nbig (m : Nat) (b : Bool) : run (.ofNat (m + 61)) b = true := by kernel_rfl
end Go.Proofs.Ytpmonnofmnncjaa.Marks
