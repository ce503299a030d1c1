/-
  DERIVED. GIVEN WITH THE SEED: THE CARDS: each row of YtolplompnmammaaGreatDoorRows.lean that lists a variable, with what it lists TIED to the program's text (the seventh form; the later family's looks); each row that meets fmt, with fmt's text TOLD by the authors' own Lean function (tested against real Go, not proved from fmt's source: count such statements apart). THE CARD IS WHAT COUNTS. Prove the row's statement (the work); the ties are given (YtolplompnmammaaGreatDoorTie.lean); close each card by the builder's one call (the guide's Derived/Test/ToyasCard.lean, 'card_holds'). Laid BY PROGRAM, IN A SANDBOX (cutbox-door.mjs). By AI agents, Wed Nov 11 2026. No macro, syntax, notation, axiom, sorry.
-/
import Derived.Test.YtolplompnmammaaGreatDoorRows
import GoSem.ClaimSeven
namespace Go.Proofs.YtolplompnmammaaGreatDoor
namespace Rows

/-- THE TIED CARD OF 'laws.FnHanded'. -/
def fnHandedCard : Claim7 := { stood := { row := fnHandedRow, standIns := [], harness := (true, "672d5c14b68f22abb691a24e5162aa7e147fe12375a5d854ea8e7e15461ae949"), looks := false }, kinds := [], alts := [], laidByText := true, laidKinds := [.data, .data, .data], laidTests := true, laidLooks := .later }
def FnHandedCardSaid : Prop := Claim7.holds Tryz.pinned (.plain (OpenSpec.ofChange fnHandedSpec)) fnHandedCard

/-- THE SECOND FORM's CARD OF 'laws.FnHanded'. -/
def fnHandedUptoCard : Claim7 := { stood := { row := fnHandedUptoRow, standIns := [], harness := (true, "672d5c14b68f22abb691a24e5162aa7e147fe12375a5d854ea8e7e15461ae949"), looks := false }, kinds := [], alts := [], laidByText := true, laidKinds := [.data, .data, .data], laidTests := true, laidLooks := .later }
def FnHandedUptoCardSaid : Prop := Claim7.holds Tryz.pinned (.plain (OpenSpec.upto fnHandedSpec)) fnHandedUptoCard
end Rows
end Go.Proofs.YtolplompnmammaaGreatDoor
