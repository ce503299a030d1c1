/-
  DERIVED. GIVEN WITH THE SEED: THE CARDS: each row of YtdgkokanccedkaaGreatDoorRows.lean that lists a variable, with what it lists TIED to the program's text (the seventh form; the later family's looks); each row that meets fmt, with fmt's text TOLD by the authors' own Lean function (tested against real Go, not proved from fmt's source: count such statements apart). THE CARD IS WHAT COUNTS. Prove the row's statement (the work); the ties are given (YtdgkokanccedkaaGreatDoorTie.lean); close each card by the builder's one call (the guide's Derived/Test/ToyasCard.lean, 'card_holds'). Laid BY PROGRAM, IN A SANDBOX (cutbox-door.mjs). By AI agents, Wed Nov 11 2026. No macro, syntax, notation, axiom, sorry.
-/
import Derived.Test.YtdgkokanccedkaaGreatDoorRows
import GoSem.ClaimSeven
namespace Go.Proofs.YtdgkokanccedkaaGreatDoor
namespace Rows

/-- THE TIED CARD OF 'laws.FnScanRead'. -/
def fnScanReadCard : Claim7 := { stood := { row := fnScanReadRow, standIns := [], harness := (true, "25f93814be5e43bb1e2b917c9f366d1e9cf27697260c6270b908a07dabc9932e"), looks := true }, kinds := [], alts := [], laidByText := true, laidKinds := [.data, .data, .data, .data, .sentinel, .sentinel, .pinned], laidTests := true, laidLooks := .later }
def FnScanReadCardSaid : Prop := Claim7.holds Tryz.pinned (.plain (OpenSpec.ofChange fnScanReadSpec)) fnScanReadCard

/-- THE TIED CARD OF 'laws.FnExactParseScan'. -/
def fnExactParseScanCard : Claim7 := { stood := { row := fnExactParseScanRow, standIns := [], harness := (true, "25f93814be5e43bb1e2b917c9f366d1e9cf27697260c6270b908a07dabc9932e"), looks := true }, kinds := [], alts := [], laidByText := true, laidKinds := [.data, .data, .data, .data, .sentinel, .sentinel, .pinned], laidTests := true, laidLooks := .later }
def FnExactParseScanCardSaid : Prop := Claim7.holds Tryz.pinned (.plain (OpenSpec.ofChange fnExactParseScanSpec)) fnExactParseScanCard

/-- THE TIED CARD OF 'laws.FnExactFormatScan'. -/
def fnExactFormatScanCard : Claim7 := { stood := { row := fnExactFormatScanRow, standIns := [], harness := (true, "25f93814be5e43bb1e2b917c9f366d1e9cf27697260c6270b908a07dabc9932e"), looks := true }, kinds := [], alts := [], laidByText := true, laidKinds := [.data, .data, .data], laidTests := true, laidLooks := .later }
def FnExactFormatScanCardSaid : Prop := Claim7.holds Tryz.pinned (.plain (OpenSpec.ofChange fnExactFormatScanSpec)) fnExactFormatScanCard

/-- THE SECOND FORM's CARD OF 'laws.FnScanRead'. -/
def fnScanReadUptoCard : Claim7 := { stood := { row := fnScanReadUptoRow, standIns := [], harness := (true, "25f93814be5e43bb1e2b917c9f366d1e9cf27697260c6270b908a07dabc9932e"), looks := true }, kinds := [], alts := [], laidByText := true, laidKinds := [.data, .data, .data, .data, .sentinel, .sentinel, .pinned], laidTests := true, laidLooks := .later }
def FnScanReadUptoCardSaid : Prop := Claim7.holds Tryz.pinned (.plain (OpenSpec.upto fnScanReadSpec)) fnScanReadUptoCard

/-- THE SECOND FORM's CARD OF 'laws.FnExactParseScan'. -/
def fnExactParseScanUptoCard : Claim7 := { stood := { row := fnExactParseScanUptoRow, standIns := [], harness := (true, "25f93814be5e43bb1e2b917c9f366d1e9cf27697260c6270b908a07dabc9932e"), looks := true }, kinds := [], alts := [], laidByText := true, laidKinds := [.data, .data, .data, .data, .sentinel, .sentinel, .pinned], laidTests := true, laidLooks := .later }
def FnExactParseScanUptoCardSaid : Prop := Claim7.holds Tryz.pinned (.plain (OpenSpec.upto fnExactParseScanSpec)) fnExactParseScanUptoCard

/-- THE SECOND FORM's CARD OF 'laws.FnExactFormatScan'. -/
def fnExactFormatScanUptoCard : Claim7 := { stood := { row := fnExactFormatScanUptoRow, standIns := [], harness := (true, "25f93814be5e43bb1e2b917c9f366d1e9cf27697260c6270b908a07dabc9932e"), looks := true }, kinds := [], alts := [], laidByText := true, laidKinds := [.data, .data, .data], laidTests := true, laidLooks := .later }
def FnExactFormatScanUptoCardSaid : Prop := Claim7.holds Tryz.pinned (.plain (OpenSpec.upto fnExactFormatScanSpec)) fnExactFormatScanUptoCard
end Rows
end Go.Proofs.YtdgkokanccedkaaGreatDoor
