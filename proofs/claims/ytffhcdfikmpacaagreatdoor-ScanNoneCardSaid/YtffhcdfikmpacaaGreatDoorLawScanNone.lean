/-
  A law without arguments holds, and its card: the second reading of the program tells true, and what it tells holds of the model's run, whatever the world (the listed variables are not read).
-/
import Derived.Test.YtffhcdfikmpacaaGreatDoorRows
import Derived.Test.YtffhcdfikmpacaaGreatDoorCards
import Derived.Test.YtffhcdfikmpacaaGreatDoorTie
import Derived.Test.YtffhcdfikmpacaaGreatDoorTold3
import Derived.Test.YtffhcdfikmpacaaGreatDoorFacts3
import Derived.WalkKit
import Derived.ProofKit
import Derived.OpenShut
import Derived.ShutString
import Derived.ChangeOld
import Derived.Below
import Derived.FnData
import Derived.Test.YtffhcdfikmpacaaGreatDoorSvScan
import Derived.SizedLaws
import Derived.LaidMore
import Derived.Lay
import Derived.SevenTiedAt
import Derived.Stop.Joined
namespace Go.Proofs.YtffhcdfikmpacaaGreatDoor.scanNone
open Go.ChangeShapes Go.WideShapes Go.ChangeAt Go.RowKit
set_option linter.unusedVariables false
theorem own : ownKnob Tryz.prog.godebug = none := by kernel_rfl
theorem mixed : Tryz.prog.follows .mixedOrders = true := by kernel_rfl
theorem tells : Ev.told (Ev.callO Tryz.prog Memo.orc 100000 100 3 [] ⟨.nil, 0⟩) = true := Ev.told_of Tryz.prog mixed Memo.sims_orc 100000 100 3 [] ⟨.nil, 0⟩ tellsX
theorem iface_of_trod {H : Type} {enc : TypeId × Value → H} {w : World} {base : Nat} {sp : Nat → Bool} {held : Bool} {fuel : Nat} {t : TypeId} {cs : List Value} {x : DataW H × List MemPlace} (ht : ∃ ms, Tryz.prog.underlying t = some (.interface ms)) (h : DataW.trod enc Tryz.prog w base sp held fuel t cs = some x) :
    ∃ v, cs = [v] ∧ (v = .nilIface ∨ ∃ te pe, v = .iface te pe) := by
  cases fuel with
  | zero => rw [DataW.trod] at h; cases h
  | succ f =>
    unfold DataW.trod at h
    obtain ⟨ms, ht⟩ := ht; rw [ht] at h
    split at h <;> first
      | exact ⟨_, rfl, .inl rfl⟩
      | exact ⟨_, rfl, .inr ⟨_, _, rfl⟩⟩
      | (rename_i q; cases q)
      | (rename_i q _; cases q)
      | cases h
theorem good {W : World} (h : laidMetH Tryz.prog Rows.scanNoneRow.laid W) : Ev.GoodW W.heap.size W := by
  rw [MakeChecks.laidMetH_plain _ _ _ (by kernel_rfl)] at h
  obtain ⟨ps, ⟨_, _, _, _, _, _, _, _, _, _, ⟨_, _, _, _, _, _, _, _, _, _, ⟨_, _, _, _, _, _, _, _, _, _, ⟨_, _, _, _, _, _, _, _, _, _, ⟨g, t, cs, fuel, p, q, hg, ht, hvar, hd, _, _⟩, _⟩, _⟩, _⟩, _⟩, _⟩ := h
  obtain rfl := Option.some.inj ((show Tryz.prog.globalNamed "strconv.ErrSyntax" = some 1 by kernel_rfl).symm.trans hg)
  obtain rfl := Option.some.inj ((show (Tryz.prog.globals[1]?).map (·.type) = some 270 by kernel_rfl).symm.trans ht)
  obtain ⟨v, e1, e2⟩ := iface_of_trod ⟨_, Tryz.underlying270⟩ hd
  have hc : W.cell? ⟨1, 0, none⟩ = some v := by
    rw [World.var?_cell hg hvar 0]
    have : cs.toList[0]? = some v := by rw [e1]; rfl
    simpa using this
  exact ⟨Lib.lt_of_cell hc, v, hc, e2⟩
set_option maxRecDepth 100000 in
theorem lifted (os : Os) (started : os.Started) (H : Type) (enc : TypeId × Value → H) :
    ReturnsInHanded {} Tryz.checked os 3 .any (fun w args => (Rows.scanNoneSpec.pre enc Tryz.prog Tryz.f3 Rows.scanNoneRow.domain false w args ∧ laidMetH Tryz.prog Rows.scanNoneRow.laid w) ∧ sizedMet enc Tryz.prog Tryz.f3 (OpenSpec.ofChange Rows.scanNoneSpec) false w args)
      (Rows.scanNoneSpec.post enc Tryz.prog Tryz.f3 false true false false) := by
  refine returnsInHanded_of_change_and (C := Tryz.checked) (X := fun w _ => laidMetH Tryz.prog Rows.scanNoneRow.laid w) (fun _ _ _ hh h => h.of_heap hh) own started (by kernel_rfl) Tryz.func3
    (ChangeSpec.witness_shaped (enc := enc) (C := Tryz.checked) (os := os) (X := fun w _ => laidMetH Tryz.prog Rows.scanNoneRow.laid w) false (World.laidAll Tryz.prog os Rows.scanNoneRow.laid) #[] 8 (World.laidAll_os _ _ _)
      (World.shaped_of_ZipB (by kernel_rfl) (by kernel_rfl)) (by kernel_rfl) (by kernel_rfl) (by kernel_rfl)
      (by rw [MakeChecks.laidMetH_plain _ _ _ (by kernel_rfl)]; exact laidMet_laidAll _ (by kernel_rfl) (by kernel_rfl))) ?_
  intro W base args ds gs before hval0 hW hc _ hL _
  have hW' := hW
  obtain ⟨p, q, hA0, hV, rfl, hfz, hnd⟩ := hW
  have hA : DataW.TrodAll enc Tryz.prog W 0 (fun _ => true) true Tryz.f3.params.toList args.toList ds p := hA0
  rw [Tryz.params3] at hA
  obtain ⟨hargs, rfl, rfl⟩ := trodAll_nil hA
  obtain rfl : args = #[] := by cases args; simp_all
  obtain ⟨rfl, rfl⟩ := trodVars_none hV
  clear hA0 hval0
  refine (Ev.closed_okO Tryz.prog mixed Memo.sims_orc 100000 100 3 tells W (good hL)).mono fun e W' ⟨he, bel⟩ => ?_
  subst he
  exact ⟨_, rfl, _, _, _, [], _, [], hW', trodAll_mk1 (shut_bool Tryz.underlying4 _), trodAll_mk0, rfl, bel.frame _, fun h => by cases h⟩
theorem over : Rows.scanNoneRow.holds Tryz.pinned (OpenSpec.ofChange Rows.scanNoneSpec) :=
  OpenClaim.holds_of_wide 3 Tryz.f3 rfl rfl rfl rfl rfl rfl rfl ⟨rfl, rfl, rfl, rfl, rfl⟩ rfl rfl rfl rfl rfl named Tryz.func3 facts inst wrap
    (fun os started H enc _ => lifted os started H enc)
theorem card : Rows.ScanNoneCardSaid :=
  Claim7.holds_tied_plain_at .later [] Rows.scanNoneCard.laidKinds true Rows.scanNoneCard.stood.harness Rows.scanNoneCard.stood.looks over (fun _ h => by cases h) byText (fun _ h => by cases h) scanNone_row_tie rfl ⟨rfl, rfl⟩ mainIs rfl
    (fun f fn hf hfn => by
      obtain rfl : f = 3 := Option.some.inj (named.symm.trans hf) |>.symm
      obtain rfl : fn = Tryz.f3 := (Option.some.inj (Tryz.func3.symm.trans hfn)).symm
      exact ⟨looks, fun j t ht => by
        rw [Tryz.params3] at ht
        simp at ht⟩)
    goes
#print axioms card
end Go.Proofs.YtffhcdfikmpacaaGreatDoor.scanNone
namespace Go.Proofs.YtffhcdfikmpacaaGreatDoor
/-- The card, under a short name, for the claim. -/
theorem scanNone_holds : Rows.ScanNoneCardSaid := scanNone.card
end Go.Proofs.YtffhcdfikmpacaaGreatDoor
