/-
  A copy of a map: what the program's call of the host tells.
-/
import Derived.Test.YtjhijcehcklipaaEvUsed
import Derived.Test.YtjhijcehcklipaaEvCall
namespace Go.Proofs.Ytjhijcehcklipaa.Ev
open Go.RowKit
set_option maxHeartbeats 1000000 in
set_option maxRecDepth 100000 in
theorem clone_calls (w : World) (b clock : Nat) (es : Array MapEntry) (hb : w.heap[b]? = some (.map es clock)) :
    Calls Try.prog 42 #[.map (some b)] w fun e w' => e = .returned (.map (some w.heap.size)) ∧ w' = w.alloc (.map es clock) := by
  go_enter Try.func42, Try.ntmps42
  have heq : (binOp .eql 72 (.map (some b)) (.map none)).run Try.prog w = .ok (.bool false) w := by
    have p' : (Op.equal 72 (.map (some b)) (.map none)).run Try.prog w = .ok false w := eq_mnil (P := Try.prog) Try.underlying72 b w
    rw [(bin_plain rfl _).1, Sem.run_bind, p']; rfl
  have hcl : (Extern.MapsClone.clone #[.iface 72 (.map (some b))]).run Try.prog w = .ok (.iface 72 (.map (some w.heap.size))) (w.alloc (.map es clock)) := by
    have hgo : (getObj b).run Try.prog w = .ok (.map es clock) w := by simp [getObj, Sem.run, hb]
    show (do
      let .map entries clock ← getObj b | stuck "maps.clone: a map expected"
      pure (Value.iface 72 (.map (some (← newObj (.map entries clock))))) : Sem Value).run Try.prog w = _
    rw [Sem.run_bind, hgo]
    rfl
  have hta : ∀ w1 : World, (Instr.typeAssert (.iface 72 (.map (some w.heap.size))) 20 72 false).run Try.prog w1 = .ok (.map (some w.heap.size)) w1 := fun w1 => by
    unfold Instr.typeAssert
    rw [Sem.run_bind, run_underlying Try.underlying72]
    rfl
  go_wp2
  rw [run_callFunc_extern Try.func73 (by kernel_rfl) (by kernel_rfl) (by kernel_rfl) (e := Extern.MapsClone.clone) (by kernel_rfl), hcl]
  simp only [Result.andThen]
  rw [Oper.upon_value]
  go_wp2
  go_ret
  exact ⟨rfl, rfl⟩
end Go.Proofs.Ytjhijcehcklipaa.Ev
