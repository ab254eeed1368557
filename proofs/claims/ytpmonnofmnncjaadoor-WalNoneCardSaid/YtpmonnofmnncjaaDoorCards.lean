/-
  DERIVED. GIVEN WITH THE SEED: THE CARDS: each row of YtpmonnofmnncjaaDoorRows.lean that lists a variable, with what it lists TIED to the program's text (the seventh form; the later family's looks); each row that meets fmt, with fmt's text TOLD by the authors' own Lean function (tested against real Go, not proved from fmt's source: count such statements apart). THE CARD IS WHAT COUNTS. Prove the row's statement (the work); the ties are given (YtpmonnofmnncjaaDoorTie.lean); close each card by the builder's one call (the guide's Derived/Test/ToyasCard.lean, 'card_holds'). Laid BY PROGRAM, IN A SANDBOX (cutbox-door.mjs). By AI agents, Wed Nov 11 2026. No macro, syntax, notation, axiom, sorry.
-/
import Derived.Test.YtpmonnofmnncjaaDoorRows
import GoSem.ClaimSeven
namespace Go.Proofs.YtpmonnofmnncjaaDoor
namespace Rows

/-- THE TIED CARD OF 'incipitlaw13.WalNone'. -/
def walNoneCard : Claim7 := { stood := { row := walNoneRow, standIns := [], harness := (true, "c24ce52bc3f637a57d2ca9ceb52901eafcdecb597c5583747439aa10cdc465ca"), looks := false }, kinds := [], alts := [], laidByText := true, laidKinds := [.data, .data, .data], laidTests := true, laidLooks := .later }
def WalNoneCardSaid : Prop := Claim7.holds Tryd.pinned (.plain (OpenSpec.ofChange walNoneSpec)) walNoneCard

/-- THE SECOND FORM's CARD OF 'incipitlaw13.WalNone'. -/
def walNoneUptoCard : Claim7 := { stood := { row := walNoneUptoRow, standIns := [], harness := (true, "c24ce52bc3f637a57d2ca9ceb52901eafcdecb597c5583747439aa10cdc465ca"), looks := false }, kinds := [], alts := [], laidByText := true, laidKinds := [.data, .data, .data], laidTests := true, laidLooks := .later }
def WalNoneUptoCardSaid : Prop := Claim7.holds Tryd.pinned (.plain (OpenSpec.upto walNoneSpec)) walNoneUptoCard
end Rows
end Go.Proofs.YtpmonnofmnncjaaDoor
