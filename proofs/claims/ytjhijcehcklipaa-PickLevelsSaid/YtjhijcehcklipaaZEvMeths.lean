/-
  The methods behind interface values that the second reading knows are the program's.
-/
import Derived.Test.YtjhijcehcklipaaZEvPure
import Derived.Test.YtjhijcehcklipaaProg
import Derived.Below
import Derived.OwnWalk
import Derived.Tactics
import Derived.WalkKit
import Derived.KernelRfl
import Derived.RowKit
import Derived.RowKit3
namespace Go.Proofs.Ytjhijcehcklipaa.Ev
open Go.RowKit
section
variable {P : Program}
theorem info_run {t : TypeId} {i : TypeInfo} (h : P.info? t = some i) (w : World) : (typeInfo t).run P w = .ok i w := by
  unfold typeInfo
  rw [Sem.run_bind, run_program]
  show (match P.info? t with | some i => pure i | none => stuck "no such type" : Sem TypeInfo).run P w = _
  rw [h]; rfl
def rowOf (P : Program) (t : TypeId) (name : String) : Option (Nat × Bool × TypeId) := match P.info? t with
  | some i => match i.methods.find? (·.name == name), P.underlying t with
    | some m, some (.pointer e) => if m.path.size = 0 then m.func.map fun q => (q.1, q.2, e) else none
    | _, _ => none
  | none => none
theorem rowOf_some {t e : TypeId} {name : String} {g : Nat} {b : Bool} (h : rowOf P t name = some (g, b, e)) :
    ∃ i m, P.info? t = some i ∧ i.methods.find? (·.name == name) = some m ∧ m.path = #[] ∧ m.func = some (g, b) ∧ P.underlying t = some (.pointer e) := by
  unfold rowOf at h
  split at h
  · rename_i i hi
    split at h
    · rename_i m e' hm hu
      split at h
      · rename_i hp
        obtain ⟨q, hq, hr⟩ := Option.map_eq_some_iff.1 h
        obtain ⟨q1, q2⟩ := q
        obtain ⟨rfl, h2⟩ := Prod.mk.inj hr
        obtain ⟨rfl, rfl⟩ := Prod.mk.inj h2
        exact ⟨i, m, hi, hm, Array.eq_empty_of_size_eq_zero hp, hq, hu⟩
      · cases h
    · cases h
  · cases h
theorem method_ptr {t : TypeId} {name : String} {g : Nat} (h : (rowOf P t name).map (fun q => (q.1, q.2.1)) = some (g, true)) (n : Nat) (v : Value) (w : World) :
    (method (n + 1) t v name).run P w = .ok (g, v) w := by
  obtain ⟨⟨g1, b1, e⟩, h1, h2⟩ := Option.map_eq_some_iff.1 h
  obtain ⟨rfl, rfl⟩ := Prod.mk.inj h2
  obtain ⟨i, m, hi, hm, hp, hf, hu⟩ := rowOf_some h1
  rw [method]
  simp only [Sem.run_bind, info_run hi, Result.andThen_ok, hm, hp, hf, follow, receiverAt, Sem.run_pure, run_underlying hu, Place.get]
theorem wrap_run (ts : Array TypeId) (t : TypeId) (a : Addr) (nm : String) (w : World) : (Builtin.ssaWrapNilChk_ ts t #[.pointer (some a), strVal "", strVal nm]).run P w = .ok (.pointer (some a)) w := rfl
theorem asAddr_run (a : Addr) (w : World) : (asAddr (.pointer (some a))).run P w = .ok a w := rfl
theorem method_val {t e : TypeId} {name : String} {g : Nat} (h : rowOf P t name = some (g, false, e)) (n : Nat) (blk off : Nat) (w : World) (c : Value) (w' : World)
    (hl : (loadVar e ⟨blk, off, none⟩).run P w = .ok c w') : (method (n + 1) t (.pointer (some ⟨blk, off, none⟩)) name).run P w = .ok (g, c) w' := by
  obtain ⟨i, m, hi, hm, hp, hf, hu⟩ := rowOf_some h
  have he : (#[] : Array FieldStep).isEmpty = true := rfl
  rw [method]
  simp only [Sem.run_bind, info_run hi, Result.andThen_ok, hm, hp, hf, follow, receiverAt, Sem.run_pure, run_underlying hu, Place.get, he, if_true, wrap_run, asAddr_run, hl]
theorem ahead_ptr {t : TypeId} {name : String} (h : (rowOf P t name).map (fun q => q.2.1) = some true) (n : Nat) (v : Value) (w : World) :
    (nilAhead (n + 1) t v name).run P w = .ok (some false) w := by
  obtain ⟨⟨g1, b1, e⟩, h1, h2⟩ := Option.map_eq_some_iff.1 h
  obtain rfl : b1 = true := h2
  obtain ⟨i, m, hi, hm, hp, hf, hu⟩ := rowOf_some h1
  rw [nilAhead]
  simp only [Sem.run_bind, info_run hi, Result.andThen_ok, hm, hp, hf, followBlind, Sem.run_pure]
end
theorem fuel : Try.prog.types.size + Made.depth = (Try.prog.types.size + Made.depth - 1) + 1 := by
  have : 0 < Made.depth := by decide
  omega
instance methsOk : MethsOk Try.prog where
  ptr t name g h := by
    rw [fuel]
    unfold methT at h
    (repeat' split at h) <;> first
      | (cases h; done)
      | (obtain ⟨rfl, _⟩ := Prod.mk.inj (Option.some.inj h); subst name; exact ⟨fun v w => method_ptr (by kernel_rfl) _ v w, fun v w => ahead_ptr (by kernel_rfl) _ v w⟩)
  val t name g e h blk off w c w' hl := by
    rw [fuel]
    unfold methT at h
    (repeat' split at h) <;> first
      | (cases h; done)
      | (obtain ⟨rfl, he⟩ := Prod.mk.inj (Option.some.inj h); obtain rfl := Option.some.inj he; subst name; exact method_val (by kernel_rfl) _ blk off w c w' hl)
end Go.Proofs.Ytjhijcehcklipaa.Ev
