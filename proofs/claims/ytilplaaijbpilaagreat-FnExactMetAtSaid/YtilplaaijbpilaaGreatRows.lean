/-
  No cell of these rows narrows 'for every input' (looked for: loops, veiled, ifaces, maps, wideKeys, modest, calm, conditions, laid).
  DERIVED. THE GIVEN ROWS OF THIS SEAT. 12 by the template 'for every input the law returns true; each argument reads behind the call as it read before'; 0 by the template 'total and deterministic' (their statements: YtilplaaijbpilaaGreatTotals.lean).
  GIVEN WITH THE SEED: the statements are not yours to turn. If you find one false, say at which input.
  Laid BY PROGRAM, IN A SANDBOX (cutbox-rows.mjs): the forced cells as the released guide's own fill.sh prints them over the translation 36556f2f5ad89544… (all of the seat's roots in one cut). By AI agents, Wed Nov 11 2026. No macro, syntax, notation, axiom, sorry.
-/
import Derived.Test.YtilplaaijbpilaaGreatChecked
import GoSem.Claim
import GoSem.ClaimJoined
import GoSem.ClaimMapViews
import Derived.JoinedTies
import Derived.KernelRfl
namespace Go.Proofs.YtilplaaijbpilaaGreat
/- THE CELL 'sum', in the pinned program and in every row, IS THE sha256 OF THE DUMP (.gsa) THAT YtilplaaijbpilaaGreatProg.lean LOADS. Nothing in Lean hashes anything: it is a label: what it is worth is what the hold of that sum in a sandbox is worth. -/
noncomputable def Tryz.pinned : Pinned := { name := "ytilplaaijbpilaagreat", sum := "36556f2f5ad895446a1fb04cd30003b980a258139de0e76180467938aae617db", checked := Tryz.checked }
namespace Rows
def none {H : Type} : Left H := { results := [], args := [] }

/-- 'laws.FnExactSortScans': WHATEVER THE INPUT: true; the input reads as it did. -/
def fnExactSortScansSpec : ChangeSpec := { name := "fnExactSortScans", fn := fun _ => fun
  | [d1, d2] => { results := [.lit (.bool true)], args := [d1, d2] }
  | _ => none }
def fnExactSortScansRow : OpenClaim := { program := "ytilplaaijbpilaagreat", sum := "36556f2f5ad895446a1fb04cd30003b980a258139de0e76180467938aae617db", func := "loop.example/g03014/laws.FnExactSortScans", spec := "fnExactSortScans", inPlace := ["internal/bytealg.abigen_runtime_cmpstring", "internal/reflectlite.ValueOf", "internal/reflectlite.Swapper", "(internal/reflectlite.Value).Len"], unfollowed := true, recurses := true, apart := false }
def FnExactSortScansSaid : Prop := fnExactSortScansRow.holds Tryz.pinned (OpenSpec.ofChange fnExactSortScansSpec)

/-- ITS FALSE NEIGHBOUR: 'it returns false'. Refute it at one input. -/
def fnExactSortScansWrong : ChangeSpec := { name := "fnExactSortScans", fn := fun _ => fun
  | [d1, d2] => { results := [.lit (.bool false)], args := [d1, d2] }
  | _ => none }
def FnExactSortScansWrongFalsely : Prop := fnExactSortScansRow.holds Tryz.pinned (OpenSpec.ofChange fnExactSortScansWrong)

/-- 'laws.FnExactScansOf': WHATEVER THE INPUT: true; the input reads as it did. -/
def fnExactScansOfSpec : ChangeSpec := { name := "fnExactScansOf", fn := fun _ => fun
  | [d1, d2, d3] => { results := [.lit (.bool true)], args := [d1, d2, d3] }
  | _ => none }
def fnExactScansOfRow : OpenClaim := { program := "ytilplaaijbpilaagreat", sum := "36556f2f5ad895446a1fb04cd30003b980a258139de0e76180467938aae617db", func := "loop.example/g03014/laws.FnExactScansOf", spec := "fnExactScansOf", inPlace := ["internal/bytealg.abigen_runtime_cmpstring", "internal/reflectlite.ValueOf", "internal/reflectlite.Swapper", "(internal/reflectlite.Value).Len"], unfollowed := true, recurses := true, apart := false }
def FnExactScansOfSaid : Prop := fnExactScansOfRow.holds Tryz.pinned (OpenSpec.ofChange fnExactScansOfSpec)

/-- ITS FALSE NEIGHBOUR: 'it returns false'. Refute it at one input. -/
def fnExactScansOfWrong : ChangeSpec := { name := "fnExactScansOf", fn := fun _ => fun
  | [d1, d2, d3] => { results := [.lit (.bool false)], args := [d1, d2, d3] }
  | _ => none }
def FnExactScansOfWrongFalsely : Prop := fnExactScansOfRow.holds Tryz.pinned (OpenSpec.ofChange fnExactScansOfWrong)

/-- 'laws.FnExactClashes': WHATEVER THE INPUT: true; the input reads as it did. -/
def fnExactClashesSpec : ChangeSpec := { name := "fnExactClashes", fn := fun _ => fun
  | [d1, d2, d3] => { results := [.lit (.bool true)], args := [d1, d2, d3] }
  | _ => none }
def fnExactClashesRow : OpenClaim := { program := "ytilplaaijbpilaagreat", sum := "36556f2f5ad895446a1fb04cd30003b980a258139de0e76180467938aae617db", func := "loop.example/g03014/laws.FnExactClashes", spec := "fnExactClashes", inPlace := ["internal/bytealg.abigen_runtime_cmpstring", "internal/reflectlite.ValueOf", "internal/reflectlite.Swapper", "(internal/reflectlite.Value).Len"], unfollowed := true, recurses := true, apart := false }
def FnExactClashesSaid : Prop := fnExactClashesRow.holds Tryz.pinned (OpenSpec.ofChange fnExactClashesSpec)

/-- ITS FALSE NEIGHBOUR: 'it returns false'. Refute it at one input. -/
def fnExactClashesWrong : ChangeSpec := { name := "fnExactClashes", fn := fun _ => fun
  | [d1, d2, d3] => { results := [.lit (.bool false)], args := [d1, d2, d3] }
  | _ => none }
def FnExactClashesWrongFalsely : Prop := fnExactClashesRow.holds Tryz.pinned (OpenSpec.ofChange fnExactClashesWrong)

/-- 'laws.FnExactCleaned': WHATEVER THE INPUT: true; the input reads as it did. -/
def fnExactCleanedSpec : ChangeSpec := { name := "fnExactCleaned", fn := fun _ => fun
  | [d1, d2, d3] => { results := [.lit (.bool true)], args := [d1, d2, d3] }
  | _ => none }
def fnExactCleanedRow : OpenClaim := { program := "ytilplaaijbpilaagreat", sum := "36556f2f5ad895446a1fb04cd30003b980a258139de0e76180467938aae617db", func := "loop.example/g03014/laws.FnExactCleaned", spec := "fnExactCleaned", inPlace := ["internal/bytealg.abigen_runtime_cmpstring", "internal/reflectlite.ValueOf", "internal/reflectlite.Swapper", "(internal/reflectlite.Value).Len"], unfollowed := true, recurses := true, apart := false }
def FnExactCleanedSaid : Prop := fnExactCleanedRow.holds Tryz.pinned (OpenSpec.ofChange fnExactCleanedSpec)

/-- ITS FALSE NEIGHBOUR: 'it returns false'. Refute it at one input. -/
def fnExactCleanedWrong : ChangeSpec := { name := "fnExactCleaned", fn := fun _ => fun
  | [d1, d2, d3] => { results := [.lit (.bool false)], args := [d1, d2, d3] }
  | _ => none }
def FnExactCleanedWrongFalsely : Prop := fnExactCleanedRow.holds Tryz.pinned (OpenSpec.ofChange fnExactCleanedWrong)

/-- 'laws.FnExactLastScan': WHATEVER THE INPUT: true; the input reads as it did. -/
def fnExactLastScanSpec : ChangeSpec := { name := "fnExactLastScan", fn := fun _ => fun
  | [d1, d2, d3, d4] => { results := [.lit (.bool true)], args := [d1, d2, d3, d4] }
  | _ => none }
def fnExactLastScanRow : OpenClaim := { program := "ytilplaaijbpilaagreat", sum := "36556f2f5ad895446a1fb04cd30003b980a258139de0e76180467938aae617db", func := "loop.example/g03014/laws.FnExactLastScan", spec := "fnExactLastScan", inPlace := ["internal/bytealg.abigen_runtime_cmpstring", "internal/reflectlite.ValueOf", "internal/reflectlite.Swapper", "(internal/reflectlite.Value).Len"], unfollowed := true, recurses := true, apart := false }
def FnExactLastScanSaid : Prop := fnExactLastScanRow.holds Tryz.pinned (OpenSpec.ofChange fnExactLastScanSpec)

/-- ITS FALSE NEIGHBOUR: 'it returns false'. Refute it at one input. -/
def fnExactLastScanWrong : ChangeSpec := { name := "fnExactLastScan", fn := fun _ => fun
  | [d1, d2, d3, d4] => { results := [.lit (.bool false)], args := [d1, d2, d3, d4] }
  | _ => none }
def FnExactLastScanWrongFalsely : Prop := fnExactLastScanRow.holds Tryz.pinned (OpenSpec.ofChange fnExactLastScanWrong)

/-- 'laws.FnExactNextScan': WHATEVER THE INPUT: true; the input reads as it did. -/
def fnExactNextScanSpec : ChangeSpec := { name := "fnExactNextScan", fn := fun _ => fun
  | [d1, d2, d3, d4] => { results := [.lit (.bool true)], args := [d1, d2, d3, d4] }
  | _ => none }
def fnExactNextScanRow : OpenClaim := { program := "ytilplaaijbpilaagreat", sum := "36556f2f5ad895446a1fb04cd30003b980a258139de0e76180467938aae617db", func := "loop.example/g03014/laws.FnExactNextScan", spec := "fnExactNextScan", inPlace := ["internal/bytealg.abigen_runtime_cmpstring", "internal/reflectlite.ValueOf", "internal/reflectlite.Swapper", "(internal/reflectlite.Value).Len"], unfollowed := true, recurses := true, apart := false }
def FnExactNextScanSaid : Prop := fnExactNextScanRow.holds Tryz.pinned (OpenSpec.ofChange fnExactNextScanSpec)

/-- ITS FALSE NEIGHBOUR: 'it returns false'. Refute it at one input. -/
def fnExactNextScanWrong : ChangeSpec := { name := "fnExactNextScan", fn := fun _ => fun
  | [d1, d2, d3, d4] => { results := [.lit (.bool false)], args := [d1, d2, d3, d4] }
  | _ => none }
def FnExactNextScanWrongFalsely : Prop := fnExactNextScanRow.holds Tryz.pinned (OpenSpec.ofChange fnExactNextScanWrong)

/-- 'laws.FnExactSoonestAt': WHATEVER THE INPUT: true; the input reads as it did. -/
def fnExactSoonestAtSpec : ChangeSpec := { name := "fnExactSoonestAt", fn := fun _ => fun
  | [d1, d2, d3, d4] => { results := [.lit (.bool true)], args := [d1, d2, d3, d4] }
  | _ => none }
def fnExactSoonestAtRow : OpenClaim := { program := "ytilplaaijbpilaagreat", sum := "36556f2f5ad895446a1fb04cd30003b980a258139de0e76180467938aae617db", func := "loop.example/g03014/laws.FnExactSoonestAt", spec := "fnExactSoonestAt", inPlace := ["internal/bytealg.abigen_runtime_cmpstring", "internal/reflectlite.ValueOf", "internal/reflectlite.Swapper", "(internal/reflectlite.Value).Len"], unfollowed := true, recurses := true, apart := false }
def FnExactSoonestAtSaid : Prop := fnExactSoonestAtRow.holds Tryz.pinned (OpenSpec.ofChange fnExactSoonestAtSpec)

/-- ITS FALSE NEIGHBOUR: 'it returns false'. Refute it at one input. -/
def fnExactSoonestAtWrong : ChangeSpec := { name := "fnExactSoonestAt", fn := fun _ => fun
  | [d1, d2, d3, d4] => { results := [.lit (.bool false)], args := [d1, d2, d3, d4] }
  | _ => none }
def FnExactSoonestAtWrongFalsely : Prop := fnExactSoonestAtRow.holds Tryz.pinned (OpenSpec.ofChange fnExactSoonestAtWrong)

/-- 'laws.FnExactMayBeAt': WHATEVER THE INPUT: true; the input reads as it did. -/
def fnExactMayBeAtSpec : ChangeSpec := { name := "fnExactMayBeAt", fn := fun _ => fun
  | [d1, d2, d3, d4, d5] => { results := [.lit (.bool true)], args := [d1, d2, d3, d4, d5] }
  | _ => none }
def fnExactMayBeAtRow : OpenClaim := { program := "ytilplaaijbpilaagreat", sum := "36556f2f5ad895446a1fb04cd30003b980a258139de0e76180467938aae617db", func := "loop.example/g03014/laws.FnExactMayBeAt", spec := "fnExactMayBeAt", inPlace := ["internal/bytealg.abigen_runtime_cmpstring", "internal/reflectlite.ValueOf", "internal/reflectlite.Swapper", "(internal/reflectlite.Value).Len"], unfollowed := true, recurses := true, apart := false }
def FnExactMayBeAtSaid : Prop := fnExactMayBeAtRow.holds Tryz.pinned (OpenSpec.ofChange fnExactMayBeAtSpec)

/-- ITS FALSE NEIGHBOUR: 'it returns false'. Refute it at one input. -/
def fnExactMayBeAtWrong : ChangeSpec := { name := "fnExactMayBeAt", fn := fun _ => fun
  | [d1, d2, d3, d4, d5] => { results := [.lit (.bool false)], args := [d1, d2, d3, d4, d5] }
  | _ => none }
def FnExactMayBeAtWrongFalsely : Prop := fnExactMayBeAtRow.holds Tryz.pinned (OpenSpec.ofChange fnExactMayBeAtWrong)

/-- 'laws.FnExactMayRide': WHATEVER THE INPUT: true; the input reads as it did. -/
def fnExactMayRideSpec : ChangeSpec := { name := "fnExactMayRide", fn := fun _ => fun
  | [d1, d2, d3, d4, d5] => { results := [.lit (.bool true)], args := [d1, d2, d3, d4, d5] }
  | _ => none }
def fnExactMayRideRow : OpenClaim := { program := "ytilplaaijbpilaagreat", sum := "36556f2f5ad895446a1fb04cd30003b980a258139de0e76180467938aae617db", func := "loop.example/g03014/laws.FnExactMayRide", spec := "fnExactMayRide", inPlace := ["internal/bytealg.abigen_runtime_cmpstring", "internal/reflectlite.ValueOf", "internal/reflectlite.Swapper", "(internal/reflectlite.Value).Len"], unfollowed := true, recurses := true, apart := false }
def FnExactMayRideSaid : Prop := fnExactMayRideRow.holds Tryz.pinned (OpenSpec.ofChange fnExactMayRideSpec)

/-- ITS FALSE NEIGHBOUR: 'it returns false'. Refute it at one input. -/
def fnExactMayRideWrong : ChangeSpec := { name := "fnExactMayRide", fn := fun _ => fun
  | [d1, d2, d3, d4, d5] => { results := [.lit (.bool false)], args := [d1, d2, d3, d4, d5] }
  | _ => none }
def FnExactMayRideWrongFalsely : Prop := fnExactMayRideRow.holds Tryz.pinned (OpenSpec.ofChange fnExactMayRideWrong)

/-- 'laws.FnExactBeliefOf': WHATEVER THE INPUT: true; the input reads as it did. -/
def fnExactBeliefOfSpec : ChangeSpec := { name := "fnExactBeliefOf", fn := fun _ => fun
  | [d1, d2, d3, d4] => { results := [.lit (.bool true)], args := [d1, d2, d3, d4] }
  | _ => none }
def fnExactBeliefOfRow : OpenClaim := { program := "ytilplaaijbpilaagreat", sum := "36556f2f5ad895446a1fb04cd30003b980a258139de0e76180467938aae617db", func := "loop.example/g03014/laws.FnExactBeliefOf", spec := "fnExactBeliefOf", inPlace := ["internal/bytealg.abigen_runtime_cmpstring", "internal/reflectlite.ValueOf", "internal/reflectlite.Swapper", "(internal/reflectlite.Value).Len"], unfollowed := true, recurses := true, apart := false }
def FnExactBeliefOfSaid : Prop := fnExactBeliefOfRow.holds Tryz.pinned (OpenSpec.ofChange fnExactBeliefOfSpec)

/-- ITS FALSE NEIGHBOUR: 'it returns false'. Refute it at one input. -/
def fnExactBeliefOfWrong : ChangeSpec := { name := "fnExactBeliefOf", fn := fun _ => fun
  | [d1, d2, d3, d4] => { results := [.lit (.bool false)], args := [d1, d2, d3, d4] }
  | _ => none }
def FnExactBeliefOfWrongFalsely : Prop := fnExactBeliefOfRow.holds Tryz.pinned (OpenSpec.ofChange fnExactBeliefOfWrong)

/-- 'laws.FnExactIsSure': WHATEVER THE INPUT: true; the input reads as it did. -/
def fnExactIsSureSpec : ChangeSpec := { name := "fnExactIsSure", fn := fun _ => fun
  | [d1, d2, d3, d4] => { results := [.lit (.bool true)], args := [d1, d2, d3, d4] }
  | _ => none }
def fnExactIsSureRow : OpenClaim := { program := "ytilplaaijbpilaagreat", sum := "36556f2f5ad895446a1fb04cd30003b980a258139de0e76180467938aae617db", func := "loop.example/g03014/laws.FnExactIsSure", spec := "fnExactIsSure", inPlace := ["internal/bytealg.abigen_runtime_cmpstring", "internal/reflectlite.ValueOf", "internal/reflectlite.Swapper", "(internal/reflectlite.Value).Len"], unfollowed := true, recurses := true, apart := false }
def FnExactIsSureSaid : Prop := fnExactIsSureRow.holds Tryz.pinned (OpenSpec.ofChange fnExactIsSureSpec)

/-- ITS FALSE NEIGHBOUR: 'it returns false'. Refute it at one input. -/
def fnExactIsSureWrong : ChangeSpec := { name := "fnExactIsSure", fn := fun _ => fun
  | [d1, d2, d3, d4] => { results := [.lit (.bool false)], args := [d1, d2, d3, d4] }
  | _ => none }
def FnExactIsSureWrongFalsely : Prop := fnExactIsSureRow.holds Tryz.pinned (OpenSpec.ofChange fnExactIsSureWrong)

/-- 'laws.FnExactMetAt': WHATEVER THE INPUT: true; the input reads as it did. -/
def fnExactMetAtSpec : ChangeSpec := { name := "fnExactMetAt", fn := fun _ => fun
  | [d1, d2, d3, d4, d5] => { results := [.lit (.bool true)], args := [d1, d2, d3, d4, d5] }
  | _ => none }
def fnExactMetAtRow : OpenClaim := { program := "ytilplaaijbpilaagreat", sum := "36556f2f5ad895446a1fb04cd30003b980a258139de0e76180467938aae617db", func := "loop.example/g03014/laws.FnExactMetAt", spec := "fnExactMetAt", inPlace := ["internal/bytealg.abigen_runtime_cmpstring", "internal/reflectlite.ValueOf", "internal/reflectlite.Swapper", "(internal/reflectlite.Value).Len"], unfollowed := true, recurses := true, apart := false }
def FnExactMetAtSaid : Prop := fnExactMetAtRow.holds Tryz.pinned (OpenSpec.ofChange fnExactMetAtSpec)

/-- ITS FALSE NEIGHBOUR: 'it returns false'. Refute it at one input. -/
def fnExactMetAtWrong : ChangeSpec := { name := "fnExactMetAt", fn := fun _ => fun
  | [d1, d2, d3, d4, d5] => { results := [.lit (.bool false)], args := [d1, d2, d3, d4, d5] }
  | _ => none }
def FnExactMetAtWrongFalsely : Prop := fnExactMetAtRow.holds Tryz.pinned (OpenSpec.ofChange fnExactMetAtWrong)

/- THE SECOND FORM. 'bulk': how many values and letters a reading holds, each counted each time it is reached (what is shared counts as often as it is met; a slice's spare places count too). A statement '..UptoSaid' is the law's where the arguments, and the package variables that the reading takes, are together of bulk at most 1048576: NARROWER than '..Said'. Prove '..Said' where nothing that the law and all that it calls make is longer than what came in: it says more and counts as full. Else prove '..UptoSaid'. A law counts once. -/
mutual
def uptoBulk {H : Type} : DataW H → Nat
  | .lit (.string bytes) => bytes.length + 1
  | .lit _ => 1
  | .nil => 1
  | .ptr d => uptoBulk d + 1
  | .slice elems spare => uptoBulkAll elems + uptoBulkAll spare + 1
  | .agg parts => uptoBulkAll parts + 1
  | .iface _ d => uptoBulk d + 1
  | .map entries => uptoBulkEntries entries + 1
  | .held _ => 1
def uptoBulkAll {H : Type} : List (DataW H) → Nat
  | [] => 0
  | d :: r => uptoBulk d + uptoBulkAll r
def uptoBulkEntries {H : Type} : List (Lit × DataW H) → Nat
  | [] => 0
  | x :: r => uptoBulkEntry x + uptoBulkEntries r
def uptoBulkEntry {H : Type} : Lit × DataW H → Nat
  | (.string bytes, d) => bytes.length + uptoBulk d + 1
  | (_, d) => uptoBulk d + 1
 end
def uptoSmall : (H : Type) → List (DataW H) → Bool := fun _ ds => decide (uptoBulkAll ds ≤ 1048576)
def OpenSpec.upto (s : _root_.Go.ChangeSpec) : _root_.Go.OpenSpec := { _root_.Go.OpenSpec.ofChange s with cond := some uptoSmall }

/-- 'laws.FnExactSortScans', WHERE WHAT IT READS IS OF BULK AT MOST 1048576: true; the input reads as it did. -/
def fnExactSortScansUptoRow : OpenClaim := { program := "ytilplaaijbpilaagreat", sum := "36556f2f5ad895446a1fb04cd30003b980a258139de0e76180467938aae617db", func := "loop.example/g03014/laws.FnExactSortScans", spec := "fnExactSortScans", inPlace := ["internal/bytealg.abigen_runtime_cmpstring", "internal/reflectlite.ValueOf", "internal/reflectlite.Swapper", "(internal/reflectlite.Value).Len"], unfollowed := true, recurses := true, apart := false, narrowed := true }
def FnExactSortScansUptoSaid : Prop := fnExactSortScansUptoRow.holds Tryz.pinned (OpenSpec.upto fnExactSortScansSpec)

/-- 'laws.FnExactScansOf', WHERE WHAT IT READS IS OF BULK AT MOST 1048576: true; the input reads as it did. -/
def fnExactScansOfUptoRow : OpenClaim := { program := "ytilplaaijbpilaagreat", sum := "36556f2f5ad895446a1fb04cd30003b980a258139de0e76180467938aae617db", func := "loop.example/g03014/laws.FnExactScansOf", spec := "fnExactScansOf", inPlace := ["internal/bytealg.abigen_runtime_cmpstring", "internal/reflectlite.ValueOf", "internal/reflectlite.Swapper", "(internal/reflectlite.Value).Len"], unfollowed := true, recurses := true, apart := false, narrowed := true }
def FnExactScansOfUptoSaid : Prop := fnExactScansOfUptoRow.holds Tryz.pinned (OpenSpec.upto fnExactScansOfSpec)

/-- 'laws.FnExactClashes', WHERE WHAT IT READS IS OF BULK AT MOST 1048576: true; the input reads as it did. -/
def fnExactClashesUptoRow : OpenClaim := { program := "ytilplaaijbpilaagreat", sum := "36556f2f5ad895446a1fb04cd30003b980a258139de0e76180467938aae617db", func := "loop.example/g03014/laws.FnExactClashes", spec := "fnExactClashes", inPlace := ["internal/bytealg.abigen_runtime_cmpstring", "internal/reflectlite.ValueOf", "internal/reflectlite.Swapper", "(internal/reflectlite.Value).Len"], unfollowed := true, recurses := true, apart := false, narrowed := true }
def FnExactClashesUptoSaid : Prop := fnExactClashesUptoRow.holds Tryz.pinned (OpenSpec.upto fnExactClashesSpec)

/-- 'laws.FnExactCleaned', WHERE WHAT IT READS IS OF BULK AT MOST 1048576: true; the input reads as it did. -/
def fnExactCleanedUptoRow : OpenClaim := { program := "ytilplaaijbpilaagreat", sum := "36556f2f5ad895446a1fb04cd30003b980a258139de0e76180467938aae617db", func := "loop.example/g03014/laws.FnExactCleaned", spec := "fnExactCleaned", inPlace := ["internal/bytealg.abigen_runtime_cmpstring", "internal/reflectlite.ValueOf", "internal/reflectlite.Swapper", "(internal/reflectlite.Value).Len"], unfollowed := true, recurses := true, apart := false, narrowed := true }
def FnExactCleanedUptoSaid : Prop := fnExactCleanedUptoRow.holds Tryz.pinned (OpenSpec.upto fnExactCleanedSpec)

/-- 'laws.FnExactLastScan', WHERE WHAT IT READS IS OF BULK AT MOST 1048576: true; the input reads as it did. -/
def fnExactLastScanUptoRow : OpenClaim := { program := "ytilplaaijbpilaagreat", sum := "36556f2f5ad895446a1fb04cd30003b980a258139de0e76180467938aae617db", func := "loop.example/g03014/laws.FnExactLastScan", spec := "fnExactLastScan", inPlace := ["internal/bytealg.abigen_runtime_cmpstring", "internal/reflectlite.ValueOf", "internal/reflectlite.Swapper", "(internal/reflectlite.Value).Len"], unfollowed := true, recurses := true, apart := false, narrowed := true }
def FnExactLastScanUptoSaid : Prop := fnExactLastScanUptoRow.holds Tryz.pinned (OpenSpec.upto fnExactLastScanSpec)

/-- 'laws.FnExactNextScan', WHERE WHAT IT READS IS OF BULK AT MOST 1048576: true; the input reads as it did. -/
def fnExactNextScanUptoRow : OpenClaim := { program := "ytilplaaijbpilaagreat", sum := "36556f2f5ad895446a1fb04cd30003b980a258139de0e76180467938aae617db", func := "loop.example/g03014/laws.FnExactNextScan", spec := "fnExactNextScan", inPlace := ["internal/bytealg.abigen_runtime_cmpstring", "internal/reflectlite.ValueOf", "internal/reflectlite.Swapper", "(internal/reflectlite.Value).Len"], unfollowed := true, recurses := true, apart := false, narrowed := true }
def FnExactNextScanUptoSaid : Prop := fnExactNextScanUptoRow.holds Tryz.pinned (OpenSpec.upto fnExactNextScanSpec)

/-- 'laws.FnExactSoonestAt', WHERE WHAT IT READS IS OF BULK AT MOST 1048576: true; the input reads as it did. -/
def fnExactSoonestAtUptoRow : OpenClaim := { program := "ytilplaaijbpilaagreat", sum := "36556f2f5ad895446a1fb04cd30003b980a258139de0e76180467938aae617db", func := "loop.example/g03014/laws.FnExactSoonestAt", spec := "fnExactSoonestAt", inPlace := ["internal/bytealg.abigen_runtime_cmpstring", "internal/reflectlite.ValueOf", "internal/reflectlite.Swapper", "(internal/reflectlite.Value).Len"], unfollowed := true, recurses := true, apart := false, narrowed := true }
def FnExactSoonestAtUptoSaid : Prop := fnExactSoonestAtUptoRow.holds Tryz.pinned (OpenSpec.upto fnExactSoonestAtSpec)

/-- 'laws.FnExactMayBeAt', WHERE WHAT IT READS IS OF BULK AT MOST 1048576: true; the input reads as it did. -/
def fnExactMayBeAtUptoRow : OpenClaim := { program := "ytilplaaijbpilaagreat", sum := "36556f2f5ad895446a1fb04cd30003b980a258139de0e76180467938aae617db", func := "loop.example/g03014/laws.FnExactMayBeAt", spec := "fnExactMayBeAt", inPlace := ["internal/bytealg.abigen_runtime_cmpstring", "internal/reflectlite.ValueOf", "internal/reflectlite.Swapper", "(internal/reflectlite.Value).Len"], unfollowed := true, recurses := true, apart := false, narrowed := true }
def FnExactMayBeAtUptoSaid : Prop := fnExactMayBeAtUptoRow.holds Tryz.pinned (OpenSpec.upto fnExactMayBeAtSpec)

/-- 'laws.FnExactMayRide', WHERE WHAT IT READS IS OF BULK AT MOST 1048576: true; the input reads as it did. -/
def fnExactMayRideUptoRow : OpenClaim := { program := "ytilplaaijbpilaagreat", sum := "36556f2f5ad895446a1fb04cd30003b980a258139de0e76180467938aae617db", func := "loop.example/g03014/laws.FnExactMayRide", spec := "fnExactMayRide", inPlace := ["internal/bytealg.abigen_runtime_cmpstring", "internal/reflectlite.ValueOf", "internal/reflectlite.Swapper", "(internal/reflectlite.Value).Len"], unfollowed := true, recurses := true, apart := false, narrowed := true }
def FnExactMayRideUptoSaid : Prop := fnExactMayRideUptoRow.holds Tryz.pinned (OpenSpec.upto fnExactMayRideSpec)

/-- 'laws.FnExactBeliefOf', WHERE WHAT IT READS IS OF BULK AT MOST 1048576: true; the input reads as it did. -/
def fnExactBeliefOfUptoRow : OpenClaim := { program := "ytilplaaijbpilaagreat", sum := "36556f2f5ad895446a1fb04cd30003b980a258139de0e76180467938aae617db", func := "loop.example/g03014/laws.FnExactBeliefOf", spec := "fnExactBeliefOf", inPlace := ["internal/bytealg.abigen_runtime_cmpstring", "internal/reflectlite.ValueOf", "internal/reflectlite.Swapper", "(internal/reflectlite.Value).Len"], unfollowed := true, recurses := true, apart := false, narrowed := true }
def FnExactBeliefOfUptoSaid : Prop := fnExactBeliefOfUptoRow.holds Tryz.pinned (OpenSpec.upto fnExactBeliefOfSpec)

/-- 'laws.FnExactIsSure', WHERE WHAT IT READS IS OF BULK AT MOST 1048576: true; the input reads as it did. -/
def fnExactIsSureUptoRow : OpenClaim := { program := "ytilplaaijbpilaagreat", sum := "36556f2f5ad895446a1fb04cd30003b980a258139de0e76180467938aae617db", func := "loop.example/g03014/laws.FnExactIsSure", spec := "fnExactIsSure", inPlace := ["internal/bytealg.abigen_runtime_cmpstring", "internal/reflectlite.ValueOf", "internal/reflectlite.Swapper", "(internal/reflectlite.Value).Len"], unfollowed := true, recurses := true, apart := false, narrowed := true }
def FnExactIsSureUptoSaid : Prop := fnExactIsSureUptoRow.holds Tryz.pinned (OpenSpec.upto fnExactIsSureSpec)

/-- 'laws.FnExactMetAt', WHERE WHAT IT READS IS OF BULK AT MOST 1048576: true; the input reads as it did. -/
def fnExactMetAtUptoRow : OpenClaim := { program := "ytilplaaijbpilaagreat", sum := "36556f2f5ad895446a1fb04cd30003b980a258139de0e76180467938aae617db", func := "loop.example/g03014/laws.FnExactMetAt", spec := "fnExactMetAt", inPlace := ["internal/bytealg.abigen_runtime_cmpstring", "internal/reflectlite.ValueOf", "internal/reflectlite.Swapper", "(internal/reflectlite.Value).Len"], unfollowed := true, recurses := true, apart := false, narrowed := true }
def FnExactMetAtUptoSaid : Prop := fnExactMetAtUptoRow.holds Tryz.pinned (OpenSpec.upto fnExactMetAtSpec)

end Rows
end Go.Proofs.YtilplaaijbpilaaGreat
