/-
  The taking apart of two characters, told once, and laid anew wherever it is called.
-/
import Derived.Test.YtffhcdfikmpacaaGreatDoorSvParse
import Derived.Test.YtffhcdfikmpacaaGreatDoorSvMemo
import Derived.Test.YtffhcdfikmpacaaGreatDoorSvX
import Derived.Test.YtffhcdfikmpacaaGreatDoorSvMeths
namespace Go.Proofs.YtffhcdfikmpacaaGreatDoor.Memo
noncomputable def inG (g : Nat) : Bool := Ev.bc (Nat.beq g 363) true (Ev.bc (Nat.beq g 270) true (Nat.beq g 364))
noncomputable def C0 : Nat → List Ev.AV → Ev.AH → Option (Ev.AV × Ev.AH) := Ev.callX Tryz.prog (fun _ _ _ => none) 100000 100
theorem hm : Tryz.prog.follows .mixedOrders = true := by kernel_rfl
theorem sims_C0 : Ev.Sims Tryz.prog C0 := by
  unfold C0
  rw [Ev.callX_eq Tryz.prog hm (Ev.sims_none Tryz.prog)]
  exact Ev.sims_callO Tryz.prog hm 100000 (Ev.sims_none Tryz.prog) 100
theorem t0 : Ev.sumR (C0 363 [.n .i64 (.ofNat 224)] ⟨.nil, 0⟩) = some (.row [.n .i64 (.ofNat 97), .n .i64 (.ofNat 768)] 2 4611686018427387905 1) := by kernel_rfl
theorem t1 : Ev.sumR (C0 270 [.n .i64 (.ofNat 224)] ⟨.nil, 0⟩) = some (.row [.n .i64 (.ofNat 97), .n .i64 (.ofNat 768)] 2 4611686018427387905 1) := by kernel_rfl
theorem t2 : Ev.sumR (C0 364 [.n .i64 (.ofNat 768)] ⟨.nil, 0⟩) = some (.val (.n .i64 (.ofNat 230))) := by kernel_rfl
def tab : List (Nat × Nat × Ev.Sm) := [(363, 224, .row [.n .i64 (.ofNat 97), .n .i64 (.ofNat 768)] 2 4611686018427387905 1), (270, 224, .row [.n .i64 (.ofNat 97), .n .i64 (.ofNat 768)] 2 4611686018427387905 1), (364, 768, .val (.n .i64 (.ofNat 230)))]
theorem tab_ok (g m : Nat) (s : Ev.Sm) (h : (g, m, s) ∈ tab) : Ev.sumR (C0 g [.n .i64 (.ofNat m)] ⟨.nil, 0⟩) = some s := by
  unfold tab at h
  simp only [List.mem_cons, List.not_mem_nil, or_false, Prod.mk.injEq] at h
  rcases h with ⟨rfl, rfl, rfl⟩ | ⟨rfl, rfl, rfl⟩ | ⟨rfl, rfl, rfl⟩
  · exact t0
  · exact t1
  · exact t2
noncomputable def orc : Nat → List Ev.AV → Ev.AH → Option (Ev.AV × Ev.AH) := Ev.over (Ev.tabX inG tab) Ev.allO
theorem sims_orc : Ev.Sims Tryz.prog orc := Ev.sims_over (Ev.sims_tab sims_C0 inG tab tab_ok) Ev.sims_all
end Go.Proofs.YtffhcdfikmpacaaGreatDoor.Memo
