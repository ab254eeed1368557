/-
  A law of two numbers holds: told at each pair that its guard lets in, and at all others.
-/
import Derived.Test.YtpmonnofmnncjaaRows
import Derived.Test.YtpmonnofmnncjaaMarksa
import Derived.Test.YtpmonnofmnncjaaMarksb
import Derived.Test.YtpmonnofmnncjaaMarksc
import Derived.Test.YtpmonnofmnncjaaMarksd
import Derived.WalkKit
import Derived.ProofKit
import Derived.OpenShut
import Derived.ShutString
import Derived.ChangeOld
import Derived.Below
import Derived.SizedLaws
namespace Go.Proofs.Ytpmonnofmnncjaa.streamMarks
open Go.ChangeShapes Go.WideShapes Go.ChangeAt Go.RowKit
set_option linter.unusedVariables false
theorem own : ownKnob Try.prog.godebug = none := by kernel_rfl
theorem mixed : Try.prog.follows .mixedOrders = true := by kernel_rfl
open Marks
theorem all_false (n : Nat) (hn : n < 61) : run (.ofNat n) false = true :=
    if h : n < 13 then by
      have := allF_spec part_false_0 (n - 0) (by omega)
      rwa [show 0 + (n - 0) = n by omega] at this
    else
    if h : n < 18 then by
      have := allF_spec part_false_13 (n - 13) (by omega)
      rwa [show 13 + (n - 13) = n by omega] at this
    else
    if h : n < 22 then by
      have := allF_spec part_false_18 (n - 18) (by omega)
      rwa [show 18 + (n - 18) = n by omega] at this
    else
    if h : n < 26 then by
      have := allF_spec part_false_22 (n - 22) (by omega)
      rwa [show 22 + (n - 22) = n by omega] at this
    else
    if h : n < 29 then by
      have := allF_spec part_false_26 (n - 26) (by omega)
      rwa [show 26 + (n - 26) = n by omega] at this
    else
    if h : n < 32 then by
      have := allF_spec part_false_29 (n - 29) (by omega)
      rwa [show 29 + (n - 29) = n by omega] at this
    else
    if h : n < 36 then by
      have := allF_spec part_false_32 (n - 32) (by omega)
      rwa [show 32 + (n - 32) = n by omega] at this
    else
    if h : n < 40 then by
      have := allF_spec part_false_36 (n - 36) (by omega)
      rwa [show 36 + (n - 36) = n by omega] at this
    else
    if h : n < 44 then by
      have := allF_spec part_false_40 (n - 40) (by omega)
      rwa [show 40 + (n - 40) = n by omega] at this
    else
    if h : n < 48 then by
      have := allF_spec part_false_44 (n - 44) (by omega)
      rwa [show 44 + (n - 44) = n by omega] at this
    else
    if h : n < 52 then by
      have := allF_spec part_false_48 (n - 48) (by omega)
      rwa [show 48 + (n - 48) = n by omega] at this
    else
    if h : n < 56 then by
      have := allF_spec part_false_52 (n - 52) (by omega)
      rwa [show 52 + (n - 52) = n by omega] at this
    else
    if h : n < 60 then by
      have := allF_spec part_false_56 (n - 56) (by omega)
      rwa [show 56 + (n - 56) = n by omega] at this
    else
    if h : n < 61 then by
      have := allF_spec part_false_60 (n - 60) (by omega)
      rwa [show 60 + (n - 60) = n by omega] at this
    else
    absurd hn (by omega)
theorem all_true (n : Nat) (hn : n < 61) : run (.ofNat n) true = true :=
    if h : n < 12 then by
      have := allF_spec part_true_0 (n - 0) (by omega)
      rwa [show 0 + (n - 0) = n by omega] at this
    else
    if h : n < 17 then by
      have := allF_spec part_true_12 (n - 12) (by omega)
      rwa [show 12 + (n - 12) = n by omega] at this
    else
    if h : n < 21 then by
      have := allF_spec part_true_17 (n - 17) (by omega)
      rwa [show 17 + (n - 17) = n by omega] at this
    else
    if h : n < 24 then by
      have := allF_spec part_true_21 (n - 21) (by omega)
      rwa [show 21 + (n - 21) = n by omega] at this
    else
    if h : n < 27 then by
      have := allF_spec part_true_24 (n - 24) (by omega)
      rwa [show 24 + (n - 24) = n by omega] at this
    else
    if h : n < 30 then by
      have := allF_spec part_true_27 (n - 27) (by omega)
      rwa [show 27 + (n - 27) = n by omega] at this
    else
    if h : n < 33 then by
      have := allF_spec part_true_30 (n - 30) (by omega)
      rwa [show 30 + (n - 30) = n by omega] at this
    else
    if h : n < 37 then by
      have := allF_spec part_true_33 (n - 33) (by omega)
      rwa [show 33 + (n - 33) = n by omega] at this
    else
    if h : n < 41 then by
      have := allF_spec part_true_37 (n - 37) (by omega)
      rwa [show 37 + (n - 37) = n by omega] at this
    else
    if h : n < 45 then by
      have := allF_spec part_true_41 (n - 41) (by omega)
      rwa [show 41 + (n - 41) = n by omega] at this
    else
    if h : n < 49 then by
      have := allF_spec part_true_45 (n - 45) (by omega)
      rwa [show 45 + (n - 45) = n by omega] at this
    else
    if h : n < 53 then by
      have := allF_spec part_true_49 (n - 49) (by omega)
      rwa [show 49 + (n - 49) = n by omega] at this
    else
    if h : n < 57 then by
      have := allF_spec part_true_53 (n - 53) (by omega)
      rwa [show 53 + (n - 53) = n by omega] at this
    else
    if h : n < 61 then by
      have := allF_spec part_true_57 (n - 57) (by omega)
      rwa [show 57 + (n - 57) = n by omega] at this
    else
    absurd hn (by omega)
theorem all (n : Int) (b : Bool) : run n b = true := by
  cases n with
  | negSucc m => exact nneg m b
  | ofNat n =>
    by_cases hn : n < 61
    · cases b with
      | false => exact all_false n hn
      | true => exact all_true n hn
    · obtain ⟨m, rfl⟩ : ∃ m, n = m + 61 := ⟨n - 61, by omega⟩
      exact nbig m b
theorem walk (n : Int) (k : Bool) (w : World) : Calls Try.prog 5 #[.int .i64 n, .bool k] w fun e w' => e = .returned (.bool true) ∧ Below w.heap.size w w' := by
  have h : Ev.told (Ev.callO Try.prog Marks.orc 100000 100 5 [.n .i64 n, .b k] ⟨.nil, 0⟩) = true := Marks.run_told n k (all n k)
  unfold Ev.told at h
  split at h
  · rename_i H' e
    refine ((Ev.sims_callO Try.prog mixed 100000 Marks.sims_orc 100).ok 5 _ ⟨.nil, 0⟩ (.b true) H' e (fun _ _ => none) w.heap.size [.int .i64 n, .bool k] w ⟨Nat.le_refl _, (fun _ _ _ e => by cases e), (fun _ _ _ _ _ _ e => by cases e), by decide, (fun _ _ _ e => by cases e)⟩ ⟨rfl, rfl, trivial⟩).mono fun e w' hr => ?_
    obtain ⟨u, φ', rfl, h1, _, _, h2⟩ := hr
    rw [Ev.VR] at h1
    subst h1
    exact ⟨rfl, h2⟩
  · cases h
set_option maxRecDepth 100000 in
theorem lifted (os : Os) (started : os.Started) (H : Type) (enc : TypeId × Value → H) :
    ReturnsInHanded {} Try.checked os 5 .any (Rows.streamMarksSpec.pre6 enc Try.prog Try.f5 Rows.streamMarksRow.domain false) (Rows.streamMarksSpec.post enc Try.prog Try.f5 false true false false) := by
  refine returnsInHanded_of_change_sized (C := Try.checked) own started (by kernel_rfl) Try.func5
    (ChangeSpec.witness6 (enc := enc) (C := Try.checked) false ⟨#[], #[.int .i64 0, .bool false], []⟩ 8 (by kernel_rfl) (by kernel_rfl) (by kernel_rfl) (by kernel_rfl)) ?_
  intro W base args ds gs before hval0 hW hcnd hsz0 _
  have hval : ∀ (j : Nat) t v, Try.f5.params[j]? = some t → args[j]? = some v → Value.okWide Try.prog W .any base t v := hval0
  have hW' := hW
  obtain ⟨p, q, hA0, hV, rfl, hfz, hnd⟩ := hW
  have hA : DataW.TrodAll enc Try.prog W 0 (fun _ => true) true Try.f5.params.toList args.toList ds p := hA0
  rw [Try.params5] at hA hval
  obtain ⟨v0, vs0, d0, ds0, p0, q0, hargs, rfl, rfl, h0, r0⟩ := trodAll_cons hA
  obtain ⟨v1, vs1, d1, ds1, p1, q1, rfl, rfl, rfl, h1, r1⟩ := trodAll_cons r0
  obtain ⟨rfl, rfl, rfl⟩ := trodAll_nil r1
  obtain rfl : args = #[v0, v1] := by cases args; simp_all
  obtain ⟨rfl, rfl⟩ := trodVars_none hV
  obtain ⟨a0, rfl, rfl, rfl, w0⟩ := open_int Try.underlying3 (hval 0 3 v0 rfl rfl) h0
  obtain ⟨a1, rfl, rfl, rfl⟩ := open_bool Try.underlying4 (hval 1 4 v1 rfl rfl) h1
  clear hA0 hval0 hsz0
  refine (walk a0 a1 W).mono fun e W' ⟨he, bel⟩ => ?_
  subst he
  exact ⟨_, rfl, _, _, _, [], _, [], hW', trodAll_mk1 (shut_bool Try.underlying4 _), (trodAll_cons_mk (shut_int Try.underlying3 w0) (trodAll_cons_mk (shut_bool Try.underlying4 a1) trodAll_mk0)), rfl, bel.frame _, fun h => by cases h⟩
theorem over : Rows.streamMarksRow.holds Try.pinned (OpenSpec.ofChange Rows.streamMarksSpec) :=
  OpenClaim.holds_of_wide 5 Try.f5 rfl rfl rfl rfl rfl rfl rfl ⟨rfl, rfl, rfl, rfl, rfl⟩ rfl rfl rfl rfl rfl (by kernel_rfl) Try.func5 (by kernel_rfl)
    (of_decide_eq_true (by kernel_rfl)) (by unfold Func.isWrapper; first | (rw [if_pos (by decide +kernel)]; kernel_rfl) | (rw [if_neg (by decide +kernel)]; exact ⟨rfl, rfl⟩))
    (fun os started H enc _ => lifted os started H enc)
theorem proved : Rows.StreamMarksSaid := over
#print axioms proved
end Go.Proofs.Ytpmonnofmnncjaa.streamMarks
namespace Go.Proofs.Ytpmonnofmnncjaa
/-- The row, under a short name, for the claim. -/
theorem streamMarks_holds : Rows.StreamMarksSaid := streamMarks.proved
end Go.Proofs.Ytpmonnofmnncjaa
