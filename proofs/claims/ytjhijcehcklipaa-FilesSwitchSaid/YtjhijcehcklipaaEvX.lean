/-
  The swift form: calls of calls.
-/
import Derived.Test.YtjhijcehcklipaaEvL
namespace Go.Proofs.Ytjhijcehcklipaa.Ev

noncomputable def overX (O C : Nat → List AV → AH → Option (AV × AH)) (g : Nat) (as : List AV) (H : AH) : Option (AV × AH) :=
  Option.rec (motive := fun _ => Option (AV × AH)) (C g as H) (fun q => some q) (O g as H)
noncomputable def callX (P : Program) (O : Nat → List AV → AH → Option (AV × AH)) (L d : Nat) : Nat → List AV → AH → Option (AV × AH) :=
  Nat.rec (motive := fun _ => Nat → List AV → AH → Option (AV × AH)) O (fun _ ih => overX O (stepX P L ih)) d
theorem callX_eq (P : Program) [MethsOk P] (hm : P.follows .mixedOrders = true) {O : Nat → List AV → AH → Option (AV × AH)} (hO : Sims P O) (L : Nat) : ∀ d, callX P O L d = callO P O L d
  | 0 => rfl
  | d + 1 => by
    funext g as H
    show overX O (stepX P L (callX P O L d)) g as H = over O (step P L (callO P O L d)) g as H
    unfold overX over
    rw [callX_eq P hm hO L d, stepX_eq P _ (fun g as H v H' e => (sims_callO P hm L hO d).nx g as H v H' e)]
    cases O g as H <;> rfl
noncomputable def tellsX (r : Option (AV × AH)) : Bool :=
  Option.rec (motive := fun _ => Bool) false (fun q => AV.casesOn (motive_1 := fun _ => Bool) q.1 false (fun b => b) (fun _ _ => false) (fun _ => false) (fun _ => false) (fun _ _ _ => false) (fun _ => false) (fun _ _ => false) false false (fun _ => false) (fun _ => false) (fun _ _ => false) (fun _ _ => false) (fun _ _ => false)) r
theorem tellsX_told (r : Option (AV × AH)) : tellsX r = told r := by
  cases r with
  | none => rfl
  | some q => obtain ⟨v, H⟩ := q; cases v with
    | b x => cases x <;> rfl
    | _ => rfl
theorem told_of (P : Program) [MethsOk P] (hm : P.follows .mixedOrders = true) {O : Nat → List AV → AH → Option (AV × AH)} (hO : Sims P O) (L d g : Nat) (as : List AV) (H : AH) (h : tellsX (callX P O L d g as H) = true) : told (callO P O L d g as H) = true := by
  rw [← callX_eq P hm hO, ← tellsX_told]; exact h
end Go.Proofs.Ytjhijcehcklipaa.Ev
