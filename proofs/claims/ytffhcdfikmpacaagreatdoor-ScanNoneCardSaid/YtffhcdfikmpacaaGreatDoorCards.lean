/-
  DERIVED. GIVEN WITH THE SEED: THE CARDS: each row of YtffhcdfikmpacaaGreatDoorRows.lean that lists a variable, with what it lists TIED to the program's text (the seventh form; the later family's looks); each row that meets fmt, with fmt's text TOLD by the authors' own Lean function (tested against real Go, not proved from fmt's source: count such statements apart). THE CARD IS WHAT COUNTS. Prove the row's statement (the work); the ties are given (YtffhcdfikmpacaaGreatDoorTie.lean); close each card by the builder's one call (the guide's Derived/Test/ToyasCard.lean, 'card_holds'). Laid BY PROGRAM, IN A SANDBOX (cutbox-door.mjs). By AI agents, Wed Nov 11 2026. No macro, syntax, notation, axiom, sorry.
-/
import Derived.Test.YtffhcdfikmpacaaGreatDoorRows
import GoSem.ClaimSeven
namespace Go.Proofs.YtffhcdfikmpacaaGreatDoor
namespace Rows

/-- THE TIED CARD OF 'incipitlaw25.ScanNone'. -/
def scanNoneCard : Claim7 := { stood := { row := scanNoneRow, standIns := [], harness := (true, "ab1c581966acf1d77acd5e914d63b6a06a8b2c8d60e90210dc150322a3ffea9d"), looks := true }, kinds := [], alts := [], laidByText := true, laidKinds := [.data, .data, .data, .sentinel, .sentinel], laidTests := true, laidLooks := .later }
def ScanNoneCardSaid : Prop := Claim7.holds Tryz.pinned (.plain (OpenSpec.ofChange scanNoneSpec)) scanNoneCard

/-- THE TIED CARD OF 'incipitlaw24.StoreNone'. -/
def storeNoneCard : Claim7 := { stood := { row := storeNoneRow, standIns := [], harness := (true, "ab1c581966acf1d77acd5e914d63b6a06a8b2c8d60e90210dc150322a3ffea9d"), looks := true }, kinds := [], alts := [], laidByText := true, laidKinds := [.data, .data, .data, .sentinel, .sentinel], laidTests := true, laidLooks := .later }
def StoreNoneCardSaid : Prop := Claim7.holds Tryz.pinned (.plain (OpenSpec.ofChange storeNoneSpec)) storeNoneCard

/-- THE TIED CARD OF 'incipitlaw26.ScriptNone'. -/
def scriptNoneCard : Claim7 := { stood := { row := scriptNoneRow, standIns := [], harness := (true, "ab1c581966acf1d77acd5e914d63b6a06a8b2c8d60e90210dc150322a3ffea9d"), looks := true }, kinds := [], alts := [], laidByText := true, laidKinds := [.data, .data, .data, .sentinel, .sentinel], laidTests := true, laidLooks := .later }
def ScriptNoneCardSaid : Prop := Claim7.holds Tryz.pinned (.plain (OpenSpec.ofChange scriptNoneSpec)) scriptNoneCard

/-- THE TIED CARD OF 'incipitlaw21.ManifestGrows'. -/
def manifestGrowsCard : Claim7 := { stood := { row := manifestGrowsRow, standIns := [], harness := (true, "ab1c581966acf1d77acd5e914d63b6a06a8b2c8d60e90210dc150322a3ffea9d"), looks := true }, kinds := [], alts := [], laidByText := true, laidKinds := [.data, .data, .data, .sentinel, .sentinel], laidTests := true, laidLooks := .later }
def ManifestGrowsCardSaid : Prop := Claim7.holds Tryz.pinned (.plain (OpenSpec.ofChange manifestGrowsSpec)) manifestGrowsCard

/-- THE TIED CARD OF 'incipitlaw24.StoreTables'. -/
def storeTablesCard : Claim7 := { stood := { row := storeTablesRow, standIns := [], harness := (true, "ab1c581966acf1d77acd5e914d63b6a06a8b2c8d60e90210dc150322a3ffea9d"), looks := true }, kinds := [], alts := [], laidByText := true, laidKinds := [.data, .data, .data, .sentinel, .sentinel], laidTests := true, laidLooks := .later }
def StoreTablesCardSaid : Prop := Claim7.holds Tryz.pinned (.plain (OpenSpec.ofChange storeTablesSpec)) storeTablesCard

/-- THE TIED CARD OF 'incipitlaw24.StoreSnaps'. -/
def storeSnapsCard : Claim7 := { stood := { row := storeSnapsRow, standIns := [], harness := (true, "ab1c581966acf1d77acd5e914d63b6a06a8b2c8d60e90210dc150322a3ffea9d"), looks := true }, kinds := [], alts := [], laidByText := true, laidKinds := [.data, .data, .data, .sentinel, .sentinel], laidTests := true, laidLooks := .later }
def StoreSnapsCardSaid : Prop := Claim7.holds Tryz.pinned (.plain (OpenSpec.ofChange storeSnapsSpec)) storeSnapsCard

/-- THE TIED CARD OF 'incipittop.TopBad'. -/
def topBadCard : Claim7 := { stood := { row := topBadRow, standIns := [], harness := (true, "ab1c581966acf1d77acd5e914d63b6a06a8b2c8d60e90210dc150322a3ffea9d"), looks := true }, kinds := [], alts := [], laidByText := true, laidKinds := [.data, .data, .data, .sentinel, .sentinel], laidTests := true, laidLooks := .later }
def TopBadCardSaid : Prop := Claim7.holds Tryz.pinned (.plain (OpenSpec.ofChange topBadSpec)) topBadCard

/-- THE SECOND FORM's CARD OF 'incipitlaw25.ScanNone'. -/
def scanNoneUptoCard : Claim7 := { stood := { row := scanNoneUptoRow, standIns := [], harness := (true, "ab1c581966acf1d77acd5e914d63b6a06a8b2c8d60e90210dc150322a3ffea9d"), looks := true }, kinds := [], alts := [], laidByText := true, laidKinds := [.data, .data, .data, .sentinel, .sentinel], laidTests := true, laidLooks := .later }
def ScanNoneUptoCardSaid : Prop := Claim7.holds Tryz.pinned (.plain (OpenSpec.upto scanNoneSpec)) scanNoneUptoCard

/-- THE SECOND FORM's CARD OF 'incipitlaw24.StoreNone'. -/
def storeNoneUptoCard : Claim7 := { stood := { row := storeNoneUptoRow, standIns := [], harness := (true, "ab1c581966acf1d77acd5e914d63b6a06a8b2c8d60e90210dc150322a3ffea9d"), looks := true }, kinds := [], alts := [], laidByText := true, laidKinds := [.data, .data, .data, .sentinel, .sentinel], laidTests := true, laidLooks := .later }
def StoreNoneUptoCardSaid : Prop := Claim7.holds Tryz.pinned (.plain (OpenSpec.upto storeNoneSpec)) storeNoneUptoCard

/-- THE SECOND FORM's CARD OF 'incipitlaw26.ScriptNone'. -/
def scriptNoneUptoCard : Claim7 := { stood := { row := scriptNoneUptoRow, standIns := [], harness := (true, "ab1c581966acf1d77acd5e914d63b6a06a8b2c8d60e90210dc150322a3ffea9d"), looks := true }, kinds := [], alts := [], laidByText := true, laidKinds := [.data, .data, .data, .sentinel, .sentinel], laidTests := true, laidLooks := .later }
def ScriptNoneUptoCardSaid : Prop := Claim7.holds Tryz.pinned (.plain (OpenSpec.upto scriptNoneSpec)) scriptNoneUptoCard

/-- THE SECOND FORM's CARD OF 'incipitlaw21.ManifestGrows'. -/
def manifestGrowsUptoCard : Claim7 := { stood := { row := manifestGrowsUptoRow, standIns := [], harness := (true, "ab1c581966acf1d77acd5e914d63b6a06a8b2c8d60e90210dc150322a3ffea9d"), looks := true }, kinds := [], alts := [], laidByText := true, laidKinds := [.data, .data, .data, .sentinel, .sentinel], laidTests := true, laidLooks := .later }
def ManifestGrowsUptoCardSaid : Prop := Claim7.holds Tryz.pinned (.plain (OpenSpec.upto manifestGrowsSpec)) manifestGrowsUptoCard

/-- THE SECOND FORM's CARD OF 'incipitlaw24.StoreTables'. -/
def storeTablesUptoCard : Claim7 := { stood := { row := storeTablesUptoRow, standIns := [], harness := (true, "ab1c581966acf1d77acd5e914d63b6a06a8b2c8d60e90210dc150322a3ffea9d"), looks := true }, kinds := [], alts := [], laidByText := true, laidKinds := [.data, .data, .data, .sentinel, .sentinel], laidTests := true, laidLooks := .later }
def StoreTablesUptoCardSaid : Prop := Claim7.holds Tryz.pinned (.plain (OpenSpec.upto storeTablesSpec)) storeTablesUptoCard

/-- THE SECOND FORM's CARD OF 'incipitlaw24.StoreSnaps'. -/
def storeSnapsUptoCard : Claim7 := { stood := { row := storeSnapsUptoRow, standIns := [], harness := (true, "ab1c581966acf1d77acd5e914d63b6a06a8b2c8d60e90210dc150322a3ffea9d"), looks := true }, kinds := [], alts := [], laidByText := true, laidKinds := [.data, .data, .data, .sentinel, .sentinel], laidTests := true, laidLooks := .later }
def StoreSnapsUptoCardSaid : Prop := Claim7.holds Tryz.pinned (.plain (OpenSpec.upto storeSnapsSpec)) storeSnapsUptoCard

/-- THE SECOND FORM's CARD OF 'incipittop.TopBad'. -/
def topBadUptoCard : Claim7 := { stood := { row := topBadUptoRow, standIns := [], harness := (true, "ab1c581966acf1d77acd5e914d63b6a06a8b2c8d60e90210dc150322a3ffea9d"), looks := true }, kinds := [], alts := [], laidByText := true, laidKinds := [.data, .data, .data, .sentinel, .sentinel], laidTests := true, laidLooks := .later }
def TopBadUptoCardSaid : Prop := Claim7.holds Tryz.pinned (.plain (OpenSpec.upto topBadSpec)) topBadUptoCard
end Rows
end Go.Proofs.YtffhcdfikmpacaaGreatDoor
