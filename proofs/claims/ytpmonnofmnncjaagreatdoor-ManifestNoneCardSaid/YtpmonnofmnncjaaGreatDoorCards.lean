/-
  DERIVED. GIVEN WITH THE SEED: THE CARDS: each row of YtpmonnofmnncjaaGreatDoorRows.lean that lists a variable, with what it lists TIED to the program's text (the seventh form; the later family's looks); each row that meets fmt, with fmt's text TOLD by the authors' own Lean function (tested against real Go, not proved from fmt's source: count such statements apart). THE CARD IS WHAT COUNTS. Prove the row's statement (the work); the ties are given (YtpmonnofmnncjaaGreatDoorTie.lean); close each card by the builder's one call (the guide's Derived/Test/ToyasCard.lean, 'card_holds'). Laid BY PROGRAM, IN A SANDBOX (cutbox-door.mjs). By AI agents, Wed Nov 11 2026. No macro, syntax, notation, axiom, sorry.
-/
import Derived.Test.YtpmonnofmnncjaaGreatDoorRows
import GoSem.ClaimSeven
namespace Go.Proofs.YtpmonnofmnncjaaGreatDoor
namespace Rows

/-- THE TIED CARD OF 'incipitlaw21.ManifestNone'. -/
def manifestNoneCard : Claim7 := { stood := { row := manifestNoneRow, standIns := [], harness := (true, "ec9029d27f649dbd665945d0438a7afdb965776a356be043ff93cea483864942"), looks := true }, kinds := [], alts := [], laidByText := true, laidKinds := [.data, .data, .data, .sentinel, .sentinel], laidTests := true, laidLooks := .later }
def ManifestNoneCardSaid : Prop := Claim7.holds Tryz.pinned (.plain (OpenSpec.ofChange manifestNoneSpec)) manifestNoneCard

/-- THE TIED CARD OF 'incipitlaw25.ScanNone'. -/
def scanNoneCard : Claim7 := { stood := { row := scanNoneRow, standIns := [], harness := (true, "ec9029d27f649dbd665945d0438a7afdb965776a356be043ff93cea483864942"), looks := true }, kinds := [], alts := [], laidByText := true, laidKinds := [.data, .data, .data, .sentinel, .sentinel], laidTests := true, laidLooks := .later }
def ScanNoneCardSaid : Prop := Claim7.holds Tryz.pinned (.plain (OpenSpec.ofChange scanNoneSpec)) scanNoneCard

/-- THE TIED CARD OF 'incipitlaw24.StoreNone'. -/
def storeNoneCard : Claim7 := { stood := { row := storeNoneRow, standIns := [], harness := (true, "ec9029d27f649dbd665945d0438a7afdb965776a356be043ff93cea483864942"), looks := true }, kinds := [], alts := [], laidByText := true, laidKinds := [.data, .data, .data, .sentinel, .sentinel], laidTests := true, laidLooks := .later }
def StoreNoneCardSaid : Prop := Claim7.holds Tryz.pinned (.plain (OpenSpec.ofChange storeNoneSpec)) storeNoneCard

/-- THE TIED CARD OF 'incipitlaw26.ScriptNone'. -/
def scriptNoneCard : Claim7 := { stood := { row := scriptNoneRow, standIns := [], harness := (true, "ec9029d27f649dbd665945d0438a7afdb965776a356be043ff93cea483864942"), looks := true }, kinds := [], alts := [], laidByText := true, laidKinds := [.data, .data, .data, .sentinel, .sentinel], laidTests := true, laidLooks := .later }
def ScriptNoneCardSaid : Prop := Claim7.holds Tryz.pinned (.plain (OpenSpec.ofChange scriptNoneSpec)) scriptNoneCard

/-- THE TIED CARD OF 'incipitlaw24.StoreTables'. -/
def storeTablesCard : Claim7 := { stood := { row := storeTablesRow, standIns := [], harness := (true, "ec9029d27f649dbd665945d0438a7afdb965776a356be043ff93cea483864942"), looks := true }, kinds := [], alts := [], laidByText := true, laidKinds := [.data, .data, .data, .sentinel, .sentinel], laidTests := true, laidLooks := .later }
def StoreTablesCardSaid : Prop := Claim7.holds Tryz.pinned (.plain (OpenSpec.ofChange storeTablesSpec)) storeTablesCard

/-- THE TIED CARD OF 'incipitlaw24.StoreSnaps'. -/
def storeSnapsCard : Claim7 := { stood := { row := storeSnapsRow, standIns := [], harness := (true, "ec9029d27f649dbd665945d0438a7afdb965776a356be043ff93cea483864942"), looks := true }, kinds := [], alts := [], laidByText := true, laidKinds := [.data, .data, .data, .sentinel, .sentinel], laidTests := true, laidLooks := .later }
def StoreSnapsCardSaid : Prop := Claim7.holds Tryz.pinned (.plain (OpenSpec.ofChange storeSnapsSpec)) storeSnapsCard

/-- THE SECOND FORM's CARD OF 'incipitlaw21.ManifestNone'. -/
def manifestNoneUptoCard : Claim7 := { stood := { row := manifestNoneUptoRow, standIns := [], harness := (true, "ec9029d27f649dbd665945d0438a7afdb965776a356be043ff93cea483864942"), looks := true }, kinds := [], alts := [], laidByText := true, laidKinds := [.data, .data, .data, .sentinel, .sentinel], laidTests := true, laidLooks := .later }
def ManifestNoneUptoCardSaid : Prop := Claim7.holds Tryz.pinned (.plain (OpenSpec.upto manifestNoneSpec)) manifestNoneUptoCard

/-- THE SECOND FORM's CARD OF 'incipitlaw25.ScanNone'. -/
def scanNoneUptoCard : Claim7 := { stood := { row := scanNoneUptoRow, standIns := [], harness := (true, "ec9029d27f649dbd665945d0438a7afdb965776a356be043ff93cea483864942"), looks := true }, kinds := [], alts := [], laidByText := true, laidKinds := [.data, .data, .data, .sentinel, .sentinel], laidTests := true, laidLooks := .later }
def ScanNoneUptoCardSaid : Prop := Claim7.holds Tryz.pinned (.plain (OpenSpec.upto scanNoneSpec)) scanNoneUptoCard

/-- THE SECOND FORM's CARD OF 'incipitlaw24.StoreNone'. -/
def storeNoneUptoCard : Claim7 := { stood := { row := storeNoneUptoRow, standIns := [], harness := (true, "ec9029d27f649dbd665945d0438a7afdb965776a356be043ff93cea483864942"), looks := true }, kinds := [], alts := [], laidByText := true, laidKinds := [.data, .data, .data, .sentinel, .sentinel], laidTests := true, laidLooks := .later }
def StoreNoneUptoCardSaid : Prop := Claim7.holds Tryz.pinned (.plain (OpenSpec.upto storeNoneSpec)) storeNoneUptoCard

/-- THE SECOND FORM's CARD OF 'incipitlaw26.ScriptNone'. -/
def scriptNoneUptoCard : Claim7 := { stood := { row := scriptNoneUptoRow, standIns := [], harness := (true, "ec9029d27f649dbd665945d0438a7afdb965776a356be043ff93cea483864942"), looks := true }, kinds := [], alts := [], laidByText := true, laidKinds := [.data, .data, .data, .sentinel, .sentinel], laidTests := true, laidLooks := .later }
def ScriptNoneUptoCardSaid : Prop := Claim7.holds Tryz.pinned (.plain (OpenSpec.upto scriptNoneSpec)) scriptNoneUptoCard

/-- THE SECOND FORM's CARD OF 'incipitlaw24.StoreTables'. -/
def storeTablesUptoCard : Claim7 := { stood := { row := storeTablesUptoRow, standIns := [], harness := (true, "ec9029d27f649dbd665945d0438a7afdb965776a356be043ff93cea483864942"), looks := true }, kinds := [], alts := [], laidByText := true, laidKinds := [.data, .data, .data, .sentinel, .sentinel], laidTests := true, laidLooks := .later }
def StoreTablesUptoCardSaid : Prop := Claim7.holds Tryz.pinned (.plain (OpenSpec.upto storeTablesSpec)) storeTablesUptoCard

/-- THE SECOND FORM's CARD OF 'incipitlaw24.StoreSnaps'. -/
def storeSnapsUptoCard : Claim7 := { stood := { row := storeSnapsUptoRow, standIns := [], harness := (true, "ec9029d27f649dbd665945d0438a7afdb965776a356be043ff93cea483864942"), looks := true }, kinds := [], alts := [], laidByText := true, laidKinds := [.data, .data, .data, .sentinel, .sentinel], laidTests := true, laidLooks := .later }
def StoreSnapsUptoCardSaid : Prop := Claim7.holds Tryz.pinned (.plain (OpenSpec.upto storeSnapsSpec)) storeSnapsUptoCard
end Rows
end Go.Proofs.YtpmonnofmnncjaaGreatDoor
