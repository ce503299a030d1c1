/-
  No cell of these rows narrows 'for every input' (looked for: loops, veiled, ifaces, maps, wideKeys, modest, calm, conditions, laid).
  DERIVED. THE GIVEN ROWS OF THIS SEAT. 3 by the template 'for every input the law returns true; each argument reads behind the call as it read before'; 0 by the template 'total and deterministic' (their statements: YtilplaaijbpilaaTotals.lean).
  GIVEN WITH THE SEED: the statements are not yours to turn. If you find one false, say at which input.
  Laid BY PROGRAM, IN A SANDBOX (cutbox-rows.mjs): the forced cells as the released guide's own fill.sh prints them over the translation 3623caeb0d8a33cc… (all of the seat's roots in one cut). By AI agents, Wed Nov 11 2026. No macro, syntax, notation, axiom, sorry.
-/
import Derived.Test.YtilplaaijbpilaaChecked
import GoSem.Claim
import GoSem.ClaimJoined
import GoSem.ClaimMapViews
import Derived.JoinedTies
import Derived.KernelRfl
namespace Go.Proofs.Ytilplaaijbpilaa
/- THE CELL 'sum', in the pinned program and in every row, IS THE sha256 OF THE DUMP (.gsa) THAT YtilplaaijbpilaaProg.lean LOADS. Nothing in Lean hashes anything: it is a label: what it is worth is what the hold of that sum in a sandbox is worth. -/
noncomputable def Try.pinned : Pinned := { name := "ytilplaaijbpilaa", sum := "3623caeb0d8a33cc73edbd17554c8f88b28c19c6d280db54084f7beec91fe3a9", checked := Try.checked }
namespace Rows
def none {H : Type} : Left H := { results := [], args := [] }

/-- 'laws.FnExactCanFollow': WHATEVER THE INPUT: true; the input reads as it did. -/
def fnExactCanFollowSpec : ChangeSpec := { name := "fnExactCanFollow", fn := fun _ => fun
  | [d1, d2, d3] => { results := [.lit (.bool true)], args := [d1, d2, d3] }
  | _ => none }
def fnExactCanFollowRow : OpenClaim := { program := "ytilplaaijbpilaa", sum := "3623caeb0d8a33cc73edbd17554c8f88b28c19c6d280db54084f7beec91fe3a9", func := "loop.example/g03014/laws.FnExactCanFollow", spec := "fnExactCanFollow", inPlace := ["internal/bytealg.abigen_runtime_cmpstring"], unfollowed := true, recurses := true, apart := false }
def FnExactCanFollowSaid : Prop := fnExactCanFollowRow.holds Try.pinned (OpenSpec.ofChange fnExactCanFollowSpec)

/-- ITS FALSE NEIGHBOUR: 'it returns false'. Refute it at one input. -/
def fnExactCanFollowWrong : ChangeSpec := { name := "fnExactCanFollow", fn := fun _ => fun
  | [d1, d2, d3] => { results := [.lit (.bool false)], args := [d1, d2, d3] }
  | _ => none }
def FnExactCanFollowWrongFalsely : Prop := fnExactCanFollowRow.holds Try.pinned (OpenSpec.ofChange fnExactCanFollowWrong)

/-- 'laws.FnExactBestFree': WHATEVER THE INPUT: true; the input reads as it did. -/
def fnExactBestFreeSpec : ChangeSpec := { name := "fnExactBestFree", fn := fun _ => fun
  | [d1, d2, d3, d4, d5, d6, d7] => { results := [.lit (.bool true)], args := [d1, d2, d3, d4, d5, d6, d7] }
  | _ => none }
def fnExactBestFreeRow : OpenClaim := { program := "ytilplaaijbpilaa", sum := "3623caeb0d8a33cc73edbd17554c8f88b28c19c6d280db54084f7beec91fe3a9", func := "loop.example/g03014/laws.FnExactBestFree", spec := "fnExactBestFree", unfollowed := true, recurses := true, apart := false }
def FnExactBestFreeSaid : Prop := fnExactBestFreeRow.holds Try.pinned (OpenSpec.ofChange fnExactBestFreeSpec)

/-- ITS FALSE NEIGHBOUR: 'it returns false'. Refute it at one input. -/
def fnExactBestFreeWrong : ChangeSpec := { name := "fnExactBestFree", fn := fun _ => fun
  | [d1, d2, d3, d4, d5, d6, d7] => { results := [.lit (.bool false)], args := [d1, d2, d3, d4, d5, d6, d7] }
  | _ => none }
def FnExactBestFreeWrongFalsely : Prop := fnExactBestFreeRow.holds Try.pinned (OpenSpec.ofChange fnExactBestFreeWrong)

/-- 'laws.FnExactFindRoom': WHATEVER THE INPUT: true; the input reads as it did. -/
def fnExactFindRoomSpec : ChangeSpec := { name := "fnExactFindRoom", fn := fun _ => fun
  | [d1, d2, d3, d4, d5, d6, d7] => { results := [.lit (.bool true)], args := [d1, d2, d3, d4, d5, d6, d7] }
  | _ => none }
def fnExactFindRoomRow : OpenClaim := { program := "ytilplaaijbpilaa", sum := "3623caeb0d8a33cc73edbd17554c8f88b28c19c6d280db54084f7beec91fe3a9", func := "loop.example/g03014/laws.FnExactFindRoom", spec := "fnExactFindRoom", unfollowed := true, recurses := true, apart := false }
def FnExactFindRoomSaid : Prop := fnExactFindRoomRow.holds Try.pinned (OpenSpec.ofChange fnExactFindRoomSpec)

/-- ITS FALSE NEIGHBOUR: 'it returns false'. Refute it at one input. -/
def fnExactFindRoomWrong : ChangeSpec := { name := "fnExactFindRoom", fn := fun _ => fun
  | [d1, d2, d3, d4, d5, d6, d7] => { results := [.lit (.bool false)], args := [d1, d2, d3, d4, d5, d6, d7] }
  | _ => none }
def FnExactFindRoomWrongFalsely : Prop := fnExactFindRoomRow.holds Try.pinned (OpenSpec.ofChange fnExactFindRoomWrong)

/- THE SECOND FORM. 'bulk': how many values and letters a reading holds, each counted each time it is reached (what is shared counts as often as it is met; a slice's spare places count too). A statement '..UptoSaid' is the law's where the arguments, and the package variables that the reading takes, are together of bulk at most 1048576: NARROWER than '..Said'. Prove '..Said' where nothing that the law and all that it calls make is longer than what came in: it says more and counts as full. Else prove '..UptoSaid'. A law counts once. -/
mutual
def uptoBulk {H : Type} : DataW H → Nat
  | .lit (.string bytes) => bytes.length + 1
  | .lit _ => 1
  | .nil => 1
  | .ptr d => uptoBulk d + 1
  | .slice elems spare => uptoBulkAll elems + uptoBulkAll spare + 1
  | .agg parts => uptoBulkAll parts + 1
  | .iface _ d => uptoBulk d + 1
  | .map entries => uptoBulkEntries entries + 1
  | .held _ => 1
def uptoBulkAll {H : Type} : List (DataW H) → Nat
  | [] => 0
  | d :: r => uptoBulk d + uptoBulkAll r
def uptoBulkEntries {H : Type} : List (Lit × DataW H) → Nat
  | [] => 0
  | x :: r => uptoBulkEntry x + uptoBulkEntries r
def uptoBulkEntry {H : Type} : Lit × DataW H → Nat
  | (.string bytes, d) => bytes.length + uptoBulk d + 1
  | (_, d) => uptoBulk d + 1
 end
def uptoSmall : (H : Type) → List (DataW H) → Bool := fun _ ds => decide (uptoBulkAll ds ≤ 1048576)
def OpenSpec.upto (s : _root_.Go.ChangeSpec) : _root_.Go.OpenSpec := { _root_.Go.OpenSpec.ofChange s with cond := some uptoSmall }

/-- 'laws.FnExactCanFollow', WHERE WHAT IT READS IS OF BULK AT MOST 1048576: true; the input reads as it did. -/
def fnExactCanFollowUptoRow : OpenClaim := { program := "ytilplaaijbpilaa", sum := "3623caeb0d8a33cc73edbd17554c8f88b28c19c6d280db54084f7beec91fe3a9", func := "loop.example/g03014/laws.FnExactCanFollow", spec := "fnExactCanFollow", inPlace := ["internal/bytealg.abigen_runtime_cmpstring"], unfollowed := true, recurses := true, apart := false, narrowed := true }
def FnExactCanFollowUptoSaid : Prop := fnExactCanFollowUptoRow.holds Try.pinned (OpenSpec.upto fnExactCanFollowSpec)

/-- 'laws.FnExactBestFree', WHERE WHAT IT READS IS OF BULK AT MOST 1048576: true; the input reads as it did. -/
def fnExactBestFreeUptoRow : OpenClaim := { program := "ytilplaaijbpilaa", sum := "3623caeb0d8a33cc73edbd17554c8f88b28c19c6d280db54084f7beec91fe3a9", func := "loop.example/g03014/laws.FnExactBestFree", spec := "fnExactBestFree", unfollowed := true, recurses := true, apart := false, narrowed := true }
def FnExactBestFreeUptoSaid : Prop := fnExactBestFreeUptoRow.holds Try.pinned (OpenSpec.upto fnExactBestFreeSpec)

/-- 'laws.FnExactFindRoom', WHERE WHAT IT READS IS OF BULK AT MOST 1048576: true; the input reads as it did. -/
def fnExactFindRoomUptoRow : OpenClaim := { program := "ytilplaaijbpilaa", sum := "3623caeb0d8a33cc73edbd17554c8f88b28c19c6d280db54084f7beec91fe3a9", func := "loop.example/g03014/laws.FnExactFindRoom", spec := "fnExactFindRoom", unfollowed := true, recurses := true, apart := false, narrowed := true }
def FnExactFindRoomUptoSaid : Prop := fnExactFindRoomUptoRow.holds Try.pinned (OpenSpec.upto fnExactFindRoomSpec)

end Rows
end Go.Proofs.Ytilplaaijbpilaa
