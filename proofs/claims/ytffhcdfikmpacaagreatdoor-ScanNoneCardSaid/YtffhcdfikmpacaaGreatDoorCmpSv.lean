/-
  The second reading where two strings are compared: what the program's host part tells of them is told there, too.
-/
import Derived.Test.YtffhcdfikmpacaaGreatDoorSvCall
import Derived.Test.YtffhcdfikmpacaaGreatDoorProg
import Derived.Below
import Derived.OwnWalk
import Derived.Tactics
import Derived.WalkKit
import Derived.KernelRfl
import Derived.RowKit
import Derived.RowKit3
import Derived.Lib.Bytealg
namespace Go.Proofs.YtffhcdfikmpacaaGreatDoor.Ev
open Go.RowKit
set_option maxHeartbeats 1000000 in
set_option maxRecDepth 100000 in
theorem cmp_calls (a0 a1 : ByteArray) (w : World) : Calls Tryz.prog 237 #[.string a0, .string a1] w fun e w' => e = .returned (.int .i64 (Lib.compareBytes a0.data.toList a1.data.toList)) ∧ w' = w := by
  go_enter Tryz.func237, Tryz.ntmps237
  go_wp2
  rw [run_callFunc_extern Tryz.func297 (by kernel_rfl) (by kernel_rfl) (by kernel_rfl) (e := Extern.BytealgCompare.compare) (by kernel_rfl), Lib.run_compareString]
  simp only [Result.andThen]
  rw [Oper.upon_value]
  go_wp2
  go_ret
  exact ⟨rfl, rfl⟩
def cmpO : Nat → List AV → AH → Option (AV × AH)
  | g, [.s a, .s b], H => if g = 237 then some (.n .i64 (Lib.compareBytes (a.map UInt8.ofNat) (b.map UInt8.ofNat)), H) else none
  | _, _, _ => none
theorem cmpO_some {g : Nat} {xs : List AV} {H : AH} {r : AV × AH} (e : cmpO g xs H = some r) : ∃ a b, g = 237 ∧ xs = [.s a, .s b] ∧ r = (.n .i64 (Lib.compareBytes (a.map UInt8.ofNat) (b.map UInt8.ofNat)), H) := by
  unfold cmpO at e
  split at e
  · rename_i a b
    split at e
    · rename_i h; exact ⟨a, b, h, rfl, (Option.some.inj e).symm⟩
    · cases e
  · cases e
theorem back (s : ByteArray) : (s.data.toList.map UInt8.toNat).map UInt8.ofNat = s.data.toList := by
  rw [List.map_map]
  have : (UInt8.ofNat ∘ UInt8.toNat) = id := by funext x; simp
  rw [this, List.map_id]
theorem sims_cmp : Sims Tryz.prog cmpO := by
  refine ⟨fun g xs H v H' e => ?_, fun g xs H r e => ?_, fun g xs H v H' e φ B vs w hH hr => ?_⟩
  · obtain ⟨a, b, rfl, rfl, h⟩ := cmpO_some e
    obtain ⟨_, rfl⟩ := Prod.mk.inj h
    exact Nat.le_refl _
  · obtain ⟨a, b, rfl, rfl, h⟩ := cmpO_some e
    exact ⟨Tryz.f237, Tryz.func237, by kernel_rfl, by kernel_rfl⟩
  · obtain ⟨a, b, rfl, rfl, h⟩ := cmpO_some e
    obtain ⟨rfl, rfl⟩ := Prod.mk.inj h
    match vs, hr with
    | [v1, v2], hr =>
      obtain ⟨h1, h2, _⟩ := hr
      obtain ⟨s, rfl, rfl⟩ := h1
      obtain ⟨t, rfl, rfl⟩ := h2
      refine (cmp_calls s t w).mono fun e w' ⟨h3, h4⟩ => ?_
      subst h3 h4
      refine ⟨_, φ, rfl, ?_, hH, Ext.refl _ _, Below.refl _ _⟩
      rw [VR, back, back]
end Go.Proofs.YtffhcdfikmpacaaGreatDoor.Ev
