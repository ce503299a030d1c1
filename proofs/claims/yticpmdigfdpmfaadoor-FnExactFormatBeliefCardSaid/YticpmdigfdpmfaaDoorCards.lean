/-
  DERIVED. GIVEN WITH THE SEED: THE CARDS: each row of YticpmdigfdpmfaaDoorRows.lean that lists a variable, with what it lists TIED to the program's text (the seventh form; the later family's looks); each row that meets fmt, with fmt's text TOLD by the authors' own Lean function (tested against real Go, not proved from fmt's source: count such statements apart). THE CARD IS WHAT COUNTS. Prove the row's statement (the work); the ties are given (YticpmdigfdpmfaaDoorTie.lean); close each card by the builder's one call (the guide's Derived/Test/ToyasCard.lean, 'card_holds'). Laid BY PROGRAM, IN A SANDBOX (cutbox-door.mjs). By AI agents, Wed Nov 11 2026. No macro, syntax, notation, axiom, sorry.
-/
import Derived.Test.YticpmdigfdpmfaaDoorRows
import GoSem.ClaimSeven
namespace Go.Proofs.YticpmdigfdpmfaaDoor
namespace Rows

/-- THE TIED CARD OF 'laws.FnExactFormatBelief'. -/
def fnExactFormatBeliefCard : Claim7 := { stood := { row := fnExactFormatBeliefRow, standIns := [], harness := (true, "16fd0ac6d2c8d81162b56d9c7815db9250a392d9a37cd8e5c9c77dab82c55301"), looks := false }, kinds := [], alts := [], laidByText := true, laidKinds := [.data, .data, .data], laidTests := true, laidLooks := .later }
def FnExactFormatBeliefCardSaid : Prop := Claim7.holds Tryd.pinned (.plain (OpenSpec.ofChange fnExactFormatBeliefSpec)) fnExactFormatBeliefCard

/-- THE SECOND FORM's CARD OF 'laws.FnExactFormatBelief'. -/
def fnExactFormatBeliefUptoCard : Claim7 := { stood := { row := fnExactFormatBeliefUptoRow, standIns := [], harness := (true, "16fd0ac6d2c8d81162b56d9c7815db9250a392d9a37cd8e5c9c77dab82c55301"), looks := false }, kinds := [], alts := [], laidByText := true, laidKinds := [.data, .data, .data], laidTests := true, laidLooks := .later }
def FnExactFormatBeliefUptoCardSaid : Prop := Claim7.holds Tryd.pinned (.plain (OpenSpec.upto fnExactFormatBeliefSpec)) fnExactFormatBeliefUptoCard
end Rows
end Go.Proofs.YticpmdigfdpmfaaDoor
