/-
  A copy of a map: what the program's call of the host tells.
-/
import Derived.Test.YtffhcdfikmpacaaGreatDoorSvUsed
import Derived.Test.YtffhcdfikmpacaaGreatDoorSvCall
namespace Go.Proofs.YtffhcdfikmpacaaGreatDoor.Ev
open Go.RowKit
set_option maxHeartbeats 1000000 in
set_option maxRecDepth 100000 in
theorem clone_calls (w : World) (b clock : Nat) (es : Array MapEntry) (hb : w.heap[b]? = some (.map es clock)) :
    Calls Tryz.prog 120 #[.map (some b)] w fun e w' => e = .returned (.map (some w.heap.size)) ∧ w' = w.alloc (.map es clock) := by
  go_enter Tryz.func120, Tryz.ntmps120
  have heq : (binOp .eql 116 (.map (some b)) (.map none)).run Tryz.prog w = .ok (.bool false) w := by
    have p' : (Op.equal 116 (.map (some b)) (.map none)).run Tryz.prog w = .ok false w := eq_mnil (P := Tryz.prog) Tryz.underlying116 b w
    rw [(bin_plain rfl _).1, Sem.run_bind, p']; rfl
  have hcl : (Extern.MapsClone.clone #[.iface 116 (.map (some b))]).run Tryz.prog w = .ok (.iface 116 (.map (some w.heap.size))) (w.alloc (.map es clock)) := by
    have hgo : (getObj b).run Tryz.prog w = .ok (.map es clock) w := by simp [getObj, Sem.run, hb]
    show (do
      let .map entries clock ← getObj b | stuck "maps.clone: a map expected"
      pure (Value.iface 116 (.map (some (← newObj (.map entries clock))))) : Sem Value).run Tryz.prog w = _
    rw [Sem.run_bind, hgo]
    rfl
  have hta : ∀ w1 : World, (Instr.typeAssert (.iface 116 (.map (some w.heap.size))) 20 116 false).run Tryz.prog w1 = .ok (.map (some w.heap.size)) w1 := fun w1 => by
    unfold Instr.typeAssert
    rw [Sem.run_bind, run_underlying Tryz.underlying116]
    rfl
  go_wp2
  rw [run_callFunc_extern Tryz.func196 (by kernel_rfl) (by kernel_rfl) (by kernel_rfl) (e := Extern.MapsClone.clone) (by kernel_rfl), hcl]
  simp only [Result.andThen]
  rw [Oper.upon_value]
  go_wp2
  go_ret
  exact ⟨rfl, rfl⟩
end Go.Proofs.YtffhcdfikmpacaaGreatDoor.Ev
