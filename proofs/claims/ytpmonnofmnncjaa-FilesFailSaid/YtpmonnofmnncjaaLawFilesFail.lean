/-
  A law of two numbers holds: told at each pair that its guard lets in, and at all others.
-/
import Derived.Test.YtpmonnofmnncjaaRows
import Derived.Test.YtpmonnofmnncjaaFin4a
import Derived.Test.YtpmonnofmnncjaaFin4b
import Derived.Test.YtpmonnofmnncjaaFin4c
import Derived.WalkKit
import Derived.ProofKit
import Derived.OpenShut
import Derived.ShutString
import Derived.ChangeOld
import Derived.Below
import Derived.SizedLaws
namespace Go.Proofs.Ytpmonnofmnncjaa.filesFail
open Go.ChangeShapes Go.WideShapes Go.ChangeAt Go.RowKit
set_option linter.unusedVariables false
theorem own : ownKnob Try.prog.godebug = none := by kernel_rfl
theorem mixed : Try.prog.follows .mixedOrders = true := by kernel_rfl
open Fin4 in
theorem rows (n : Nat) (h : n < 21) : allF 21 (fun k => run (.ofNat n) (.ofNat k)) = true := by
  match n, h with
  | 0, _ => exact row0
  | 1, _ => exact row1
  | 2, _ => exact row2
  | 3, _ => exact row3
  | 4, _ => exact row4
  | 5, _ => exact row5
  | 6, _ => exact row6
  | 7, _ => exact row7
  | 8, _ => exact row8
  | 9, _ => exact row9
  | 10, _ => exact row10
  | 11, _ => exact row11
  | 12, _ => exact row12
  | 13, _ => exact row13
  | 14, _ => exact row14
  | 15, _ => exact row15
  | 16, _ => exact row16
  | 17, _ => exact row17
  | 18, _ => exact row18
  | 19, _ => exact row19
  | 20, _ => exact row20
  | n + 21, h => exact absurd h (by omega)
open Fin4 in
theorem all (n k : Int) : run n k = true := by
  cases n with
  | negSucc m => exact nneg m k
  | ofNat n =>
    by_cases hn : n < 21
    · cases k with
      | negSucc m => exact allF_spec (kneg m) n hn
      | ofNat k =>
        by_cases hk : k < 21
        · exact allF_spec (rows n hn) k hk
        · obtain ⟨m, rfl⟩ : ∃ m, k = m + 21 := ⟨k - 21, by omega⟩
          exact allF_spec (kbig m) n hn
    · obtain ⟨m, rfl⟩ : ∃ m, n = m + 21 := ⟨n - 21, by omega⟩
      exact nbig m k
theorem walk (n k : Int) (w : World) : Calls Try.prog 4 #[.int .i64 n, .int .i64 k] w fun e w' => e = .returned (.bool true) ∧ Below w.heap.size w w' := by
  have h : Ev.told (Ev.callO Try.prog Ev.fsO 100000 100 4 [.n .i64 n, .n .i64 k] ⟨.nil, 0⟩) = true := Ev.told_of Try.prog mixed Ev.sims_fs 100000 100 4 _ ⟨.nil, 0⟩ (all n k)
  unfold Ev.told at h
  split at h
  · rename_i H' e
    refine ((Ev.sims_callO Try.prog mixed 100000 Ev.sims_fs 100).ok 4 _ ⟨.nil, 0⟩ (.b true) H' e (fun _ _ => none) w.heap.size [.int .i64 n, .int .i64 k] w ⟨Nat.le_refl _, (fun _ _ _ e => by cases e), (fun _ _ _ _ _ _ e => by cases e), by decide, (fun _ _ _ e => by cases e)⟩ ⟨rfl, rfl, trivial⟩).mono fun e w' hr => ?_
    obtain ⟨u, φ', rfl, h1, _, _, h2⟩ := hr
    rw [Ev.VR] at h1
    subst h1
    exact ⟨rfl, h2⟩
  · cases h
set_option maxRecDepth 100000 in
theorem lifted (os : Os) (started : os.Started) (H : Type) (enc : TypeId × Value → H) :
    ReturnsInHanded {} Try.checked os 4 .any (Rows.filesFailSpec.pre6 enc Try.prog Try.f4 Rows.filesFailRow.domain false) (Rows.filesFailSpec.post enc Try.prog Try.f4 false true false false) := by
  refine returnsInHanded_of_change_sized (C := Try.checked) own started (by kernel_rfl) Try.func4
    (ChangeSpec.witness6 (enc := enc) (C := Try.checked) false ⟨#[], #[.int .i64 0, .int .i64 0], []⟩ 8 (by kernel_rfl) (by kernel_rfl) (by kernel_rfl) (by kernel_rfl)) ?_
  intro W base args ds gs before hval0 hW hcnd hsz0 _
  have hval : ∀ (j : Nat) t v, Try.f4.params[j]? = some t → args[j]? = some v → Value.okWide Try.prog W .any base t v := hval0
  have hW' := hW
  obtain ⟨p, q, hA0, hV, rfl, hfz, hnd⟩ := hW
  have hA : DataW.TrodAll enc Try.prog W 0 (fun _ => true) true Try.f4.params.toList args.toList ds p := hA0
  rw [Try.params4] at hA hval
  obtain ⟨v0, vs0, d0, ds0, p0, q0, hargs, rfl, rfl, h0, r0⟩ := trodAll_cons hA
  obtain ⟨v1, vs1, d1, ds1, p1, q1, rfl, rfl, rfl, h1, r1⟩ := trodAll_cons r0
  obtain ⟨rfl, rfl, rfl⟩ := trodAll_nil r1
  obtain rfl : args = #[v0, v1] := by cases args; simp_all
  obtain ⟨rfl, rfl⟩ := trodVars_none hV
  obtain ⟨a0, rfl, rfl, rfl, w0⟩ := open_int Try.underlying3 (hval 0 3 v0 rfl rfl) h0
  obtain ⟨a1, rfl, rfl, rfl, w1⟩ := open_int Try.underlying3 (hval 1 3 v1 rfl rfl) h1
  clear hA0 hval0 hsz0
  refine (walk a0 a1 W).mono fun e W' ⟨he, bel⟩ => ?_
  subst he
  exact ⟨_, rfl, _, _, _, [], _, [], hW', trodAll_mk1 (shut_bool Try.underlying4 _), (trodAll_cons_mk (shut_int Try.underlying3 w0) (trodAll_cons_mk (shut_int Try.underlying3 w1) trodAll_mk0)), rfl, bel.frame _, fun h => by cases h⟩
theorem over : Rows.filesFailRow.holds Try.pinned (OpenSpec.ofChange Rows.filesFailSpec) :=
  OpenClaim.holds_of_wide 4 Try.f4 rfl rfl rfl rfl rfl rfl rfl ⟨rfl, rfl, rfl, rfl, rfl⟩ rfl rfl rfl rfl rfl (by kernel_rfl) Try.func4 (by kernel_rfl)
    (of_decide_eq_true (by kernel_rfl)) (by unfold Func.isWrapper; first | (rw [if_pos (by decide +kernel)]; kernel_rfl) | (rw [if_neg (by decide +kernel)]; exact ⟨rfl, rfl⟩))
    (fun os started H enc _ => lifted os started H enc)
theorem proved : Rows.FilesFailSaid := over
#print axioms proved
end Go.Proofs.Ytpmonnofmnncjaa.filesFail
namespace Go.Proofs.Ytpmonnofmnncjaa
/-- The row, under a short name, for the claim. -/
theorem filesFail_holds : Rows.FilesFailSaid := filesFail.proved
end Go.Proofs.Ytpmonnofmnncjaa
