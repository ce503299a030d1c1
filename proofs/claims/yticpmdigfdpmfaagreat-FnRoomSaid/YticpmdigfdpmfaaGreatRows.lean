/-
  No cell of these rows narrows 'for every input' (looked for: loops, veiled, ifaces, maps, wideKeys, modest, calm, conditions, laid).
  DERIVED. THE GIVEN ROWS OF THIS SEAT. 8 by the template 'for every input the law returns true; each argument reads behind the call as it read before'; 0 by the template 'total and deterministic' (their statements: YticpmdigfdpmfaaGreatTotals.lean).
  GIVEN WITH THE SEED: the statements are not yours to turn. If you find one false, say at which input.
  Laid BY PROGRAM, IN A SANDBOX (cutbox-rows.mjs): the forced cells as the released guide's own fill.sh prints them over the translation 1246d016a780ccf3… (all of the seat's roots in one cut). By AI agents, Wed Nov 11 2026. No macro, syntax, notation, axiom, sorry.
-/
import Derived.Test.YticpmdigfdpmfaaGreatChecked
import GoSem.Claim
import GoSem.ClaimJoined
import GoSem.ClaimMapViews
import Derived.JoinedTies
import Derived.KernelRfl
namespace Go.Proofs.YticpmdigfdpmfaaGreat
/- THE CELL 'sum', in the pinned program and in every row, IS THE sha256 OF THE DUMP (.gsa) THAT YticpmdigfdpmfaaGreatProg.lean LOADS. Nothing in Lean hashes anything: it is a label: what it is worth is what the hold of that sum in a sandbox is worth. -/
noncomputable def Tryz.pinned : Pinned := { name := "yticpmdigfdpmfaagreat", sum := "1246d016a780ccf32da1e57369d394a76fd2efadf2231c388a73264f28fc105c", checked := Tryz.checked }
namespace Rows
def none {H : Type} : Left H := { results := [], args := [] }

/-- 'laws.FnStory': WHATEVER THE INPUT: true; the input reads as it did. -/
def fnStorySpec : ChangeSpec := { name := "fnStory", fn := fun _ => fun
  | [d] => { results := [.lit (.bool true)], args := [d] }
  | _ => none }
def fnStoryRow : OpenClaim := { program := "yticpmdigfdpmfaagreat", sum := "1246d016a780ccf32da1e57369d394a76fd2efadf2231c388a73264f28fc105c", func := "loop.example/g03014/laws.FnStory", spec := "fnStory", inPlace := ["internal/bytealg.abigen_runtime_cmpstring", "internal/reflectlite.ValueOf", "internal/reflectlite.Swapper", "(internal/reflectlite.Value).Len"], unfollowed := true, recurses := true, apart := false }
def FnStorySaid : Prop := fnStoryRow.holds Tryz.pinned (OpenSpec.ofChange fnStorySpec)

/-- ITS FALSE NEIGHBOUR: 'it returns false'. Refute it at one input. -/
def fnStoryWrong : ChangeSpec := { name := "fnStory", fn := fun _ => fun
  | [d] => { results := [.lit (.bool false)], args := [d] }
  | _ => none }
def FnStoryWrongFalsely : Prop := fnStoryRow.holds Tryz.pinned (OpenSpec.ofChange fnStoryWrong)

/-- 'laws.FnRoom': WHATEVER THE INPUT: true; the input reads as it did. -/
def fnRoomSpec : ChangeSpec := { name := "fnRoom", fn := fun _ => fun
  | [d] => { results := [.lit (.bool true)], args := [d] }
  | _ => none }
def fnRoomRow : OpenClaim := { program := "yticpmdigfdpmfaagreat", sum := "1246d016a780ccf32da1e57369d394a76fd2efadf2231c388a73264f28fc105c", func := "loop.example/g03014/laws.FnRoom", spec := "fnRoom", inPlace := ["internal/reflectlite.ValueOf", "internal/reflectlite.Swapper", "(internal/reflectlite.Value).Len"], unfollowed := true, recurses := true, apart := false }
def FnRoomSaid : Prop := fnRoomRow.holds Tryz.pinned (OpenSpec.ofChange fnRoomSpec)

/-- ITS FALSE NEIGHBOUR: 'it returns false'. Refute it at one input. -/
def fnRoomWrong : ChangeSpec := { name := "fnRoom", fn := fun _ => fun
  | [d] => { results := [.lit (.bool false)], args := [d] }
  | _ => none }
def FnRoomWrongFalsely : Prop := fnRoomRow.holds Tryz.pinned (OpenSpec.ofChange fnRoomWrong)

/-- 'laws.FnScanOrder': WHATEVER THE INPUT: true; the input reads as it did. -/
def fnScanOrderSpec : ChangeSpec := { name := "fnScanOrder", fn := fun _ => fun
  | [d] => { results := [.lit (.bool true)], args := [d] }
  | _ => none }
def fnScanOrderRow : OpenClaim := { program := "yticpmdigfdpmfaagreat", sum := "1246d016a780ccf32da1e57369d394a76fd2efadf2231c388a73264f28fc105c", func := "loop.example/g03014/laws.FnScanOrder", spec := "fnScanOrder", inPlace := ["internal/bytealg.abigen_runtime_cmpstring", "internal/reflectlite.ValueOf", "internal/reflectlite.Swapper", "(internal/reflectlite.Value).Len"], unfollowed := true, recurses := true, apart := false }
def FnScanOrderSaid : Prop := fnScanOrderRow.holds Tryz.pinned (OpenSpec.ofChange fnScanOrderSpec)

/-- ITS FALSE NEIGHBOUR: 'it returns false'. Refute it at one input. -/
def fnScanOrderWrong : ChangeSpec := { name := "fnScanOrder", fn := fun _ => fun
  | [d] => { results := [.lit (.bool false)], args := [d] }
  | _ => none }
def FnScanOrderWrongFalsely : Prop := fnScanOrderRow.holds Tryz.pinned (OpenSpec.ofChange fnScanOrderWrong)

/-- 'laws.FnSure': WHATEVER THE INPUT: true; the input reads as it did. -/
def fnSureSpec : ChangeSpec := { name := "fnSure", fn := fun _ => fun
  | [d] => { results := [.lit (.bool true)], args := [d] }
  | _ => none }
def fnSureRow : OpenClaim := { program := "yticpmdigfdpmfaagreat", sum := "1246d016a780ccf32da1e57369d394a76fd2efadf2231c388a73264f28fc105c", func := "loop.example/g03014/laws.FnSure", spec := "fnSure", inPlace := ["internal/bytealg.abigen_runtime_cmpstring", "internal/reflectlite.ValueOf", "internal/reflectlite.Swapper", "(internal/reflectlite.Value).Len"], unfollowed := true, recurses := true, apart := false }
def FnSureSaid : Prop := fnSureRow.holds Tryz.pinned (OpenSpec.ofChange fnSureSpec)

/-- ITS FALSE NEIGHBOUR: 'it returns false'. Refute it at one input. -/
def fnSureWrong : ChangeSpec := { name := "fnSure", fn := fun _ => fun
  | [d] => { results := [.lit (.bool false)], args := [d] }
  | _ => none }
def FnSureWrongFalsely : Prop := fnSureRow.holds Tryz.pinned (OpenSpec.ofChange fnSureWrong)

/-- 'laws.FnMoreSeen': WHATEVER THE INPUT: true; the input reads as it did. -/
def fnMoreSeenSpec : ChangeSpec := { name := "fnMoreSeen", fn := fun _ => fun
  | [d] => { results := [.lit (.bool true)], args := [d] }
  | _ => none }
def fnMoreSeenRow : OpenClaim := { program := "yticpmdigfdpmfaagreat", sum := "1246d016a780ccf32da1e57369d394a76fd2efadf2231c388a73264f28fc105c", func := "loop.example/g03014/laws.FnMoreSeen", spec := "fnMoreSeen", inPlace := ["internal/bytealg.abigen_runtime_cmpstring", "internal/reflectlite.ValueOf", "internal/reflectlite.Swapper", "(internal/reflectlite.Value).Len"], unfollowed := true, recurses := true, apart := false }
def FnMoreSeenSaid : Prop := fnMoreSeenRow.holds Tryz.pinned (OpenSpec.ofChange fnMoreSeenSpec)

/-- ITS FALSE NEIGHBOUR: 'it returns false'. Refute it at one input. -/
def fnMoreSeenWrong : ChangeSpec := { name := "fnMoreSeen", fn := fun _ => fun
  | [d] => { results := [.lit (.bool false)], args := [d] }
  | _ => none }
def FnMoreSeenWrongFalsely : Prop := fnMoreSeenRow.holds Tryz.pinned (OpenSpec.ofChange fnMoreSeenWrong)

/-- 'laws.FnTruth': WHATEVER THE INPUT: true; the input reads as it did. -/
def fnTruthSpec : ChangeSpec := { name := "fnTruth", fn := fun _ => fun
  | [d] => { results := [.lit (.bool true)], args := [d] }
  | _ => none }
def fnTruthRow : OpenClaim := { program := "yticpmdigfdpmfaagreat", sum := "1246d016a780ccf32da1e57369d394a76fd2efadf2231c388a73264f28fc105c", func := "loop.example/g03014/laws.FnTruth", spec := "fnTruth", inPlace := ["internal/bytealg.abigen_runtime_cmpstring", "internal/reflectlite.ValueOf", "internal/reflectlite.Swapper", "(internal/reflectlite.Value).Len"], unfollowed := true, recurses := true, apart := false }
def FnTruthSaid : Prop := fnTruthRow.holds Tryz.pinned (OpenSpec.ofChange fnTruthSpec)

/-- ITS FALSE NEIGHBOUR: 'it returns false'. Refute it at one input. -/
def fnTruthWrong : ChangeSpec := { name := "fnTruth", fn := fun _ => fun
  | [d] => { results := [.lit (.bool false)], args := [d] }
  | _ => none }
def FnTruthWrongFalsely : Prop := fnTruthRow.holds Tryz.pinned (OpenSpec.ofChange fnTruthWrong)

/-- 'laws.FnCleaned': WHATEVER THE INPUT: true; the input reads as it did. -/
def fnCleanedSpec : ChangeSpec := { name := "fnCleaned", fn := fun _ => fun
  | [d] => { results := [.lit (.bool true)], args := [d] }
  | _ => none }
def fnCleanedRow : OpenClaim := { program := "yticpmdigfdpmfaagreat", sum := "1246d016a780ccf32da1e57369d394a76fd2efadf2231c388a73264f28fc105c", func := "loop.example/g03014/laws.FnCleaned", spec := "fnCleaned", inPlace := ["internal/bytealg.abigen_runtime_cmpstring", "internal/reflectlite.ValueOf", "internal/reflectlite.Swapper", "(internal/reflectlite.Value).Len"], unfollowed := true, recurses := true, apart := false }
def FnCleanedSaid : Prop := fnCleanedRow.holds Tryz.pinned (OpenSpec.ofChange fnCleanedSpec)

/-- ITS FALSE NEIGHBOUR: 'it returns false'. Refute it at one input. -/
def fnCleanedWrong : ChangeSpec := { name := "fnCleaned", fn := fun _ => fun
  | [d] => { results := [.lit (.bool false)], args := [d] }
  | _ => none }
def FnCleanedWrongFalsely : Prop := fnCleanedRow.holds Tryz.pinned (OpenSpec.ofChange fnCleanedWrong)

/-- 'laws.FnBetween': WHATEVER THE INPUT: true; the input reads as it did. -/
def fnBetweenSpec : ChangeSpec := { name := "fnBetween", fn := fun _ => fun
  | [d] => { results := [.lit (.bool true)], args := [d] }
  | _ => none }
def fnBetweenRow : OpenClaim := { program := "yticpmdigfdpmfaagreat", sum := "1246d016a780ccf32da1e57369d394a76fd2efadf2231c388a73264f28fc105c", func := "loop.example/g03014/laws.FnBetween", spec := "fnBetween", inPlace := ["internal/bytealg.abigen_runtime_cmpstring", "internal/reflectlite.ValueOf", "internal/reflectlite.Swapper", "(internal/reflectlite.Value).Len"], unfollowed := true, recurses := true, apart := false }
def FnBetweenSaid : Prop := fnBetweenRow.holds Tryz.pinned (OpenSpec.ofChange fnBetweenSpec)

/-- ITS FALSE NEIGHBOUR: 'it returns false'. Refute it at one input. -/
def fnBetweenWrong : ChangeSpec := { name := "fnBetween", fn := fun _ => fun
  | [d] => { results := [.lit (.bool false)], args := [d] }
  | _ => none }
def FnBetweenWrongFalsely : Prop := fnBetweenRow.holds Tryz.pinned (OpenSpec.ofChange fnBetweenWrong)

/- THE SECOND FORM. 'bulk': how many values and letters a reading holds, each counted each time it is reached (what is shared counts as often as it is met; a slice's spare places count too). A statement '..UptoSaid' is the law's where the arguments, and the package variables that the reading takes, are together of bulk at most 1048576: NARROWER than '..Said'. Prove '..Said' where nothing that the law and all that it calls make is longer than what came in: it says more and counts as full. Else prove '..UptoSaid'. A law counts once. -/
mutual
def uptoBulk {H : Type} : DataW H → Nat
  | .lit (.string bytes) => bytes.length + 1
  | .lit _ => 1
  | .nil => 1
  | .ptr d => uptoBulk d + 1
  | .slice elems spare => uptoBulkAll elems + uptoBulkAll spare + 1
  | .agg parts => uptoBulkAll parts + 1
  | .iface _ d => uptoBulk d + 1
  | .map entries => uptoBulkEntries entries + 1
  | .held _ => 1
def uptoBulkAll {H : Type} : List (DataW H) → Nat
  | [] => 0
  | d :: r => uptoBulk d + uptoBulkAll r
def uptoBulkEntries {H : Type} : List (Lit × DataW H) → Nat
  | [] => 0
  | x :: r => uptoBulkEntry x + uptoBulkEntries r
def uptoBulkEntry {H : Type} : Lit × DataW H → Nat
  | (.string bytes, d) => bytes.length + uptoBulk d + 1
  | (_, d) => uptoBulk d + 1
 end
def uptoSmall : (H : Type) → List (DataW H) → Bool := fun _ ds => decide (uptoBulkAll ds ≤ 1048576)
def OpenSpec.upto (s : _root_.Go.ChangeSpec) : _root_.Go.OpenSpec := { _root_.Go.OpenSpec.ofChange s with cond := some uptoSmall }

/-- 'laws.FnStory', WHERE WHAT IT READS IS OF BULK AT MOST 1048576: true; the input reads as it did. -/
def fnStoryUptoRow : OpenClaim := { program := "yticpmdigfdpmfaagreat", sum := "1246d016a780ccf32da1e57369d394a76fd2efadf2231c388a73264f28fc105c", func := "loop.example/g03014/laws.FnStory", spec := "fnStory", inPlace := ["internal/bytealg.abigen_runtime_cmpstring", "internal/reflectlite.ValueOf", "internal/reflectlite.Swapper", "(internal/reflectlite.Value).Len"], unfollowed := true, recurses := true, apart := false, narrowed := true }
def FnStoryUptoSaid : Prop := fnStoryUptoRow.holds Tryz.pinned (OpenSpec.upto fnStorySpec)

/-- 'laws.FnRoom', WHERE WHAT IT READS IS OF BULK AT MOST 1048576: true; the input reads as it did. -/
def fnRoomUptoRow : OpenClaim := { program := "yticpmdigfdpmfaagreat", sum := "1246d016a780ccf32da1e57369d394a76fd2efadf2231c388a73264f28fc105c", func := "loop.example/g03014/laws.FnRoom", spec := "fnRoom", inPlace := ["internal/reflectlite.ValueOf", "internal/reflectlite.Swapper", "(internal/reflectlite.Value).Len"], unfollowed := true, recurses := true, apart := false, narrowed := true }
def FnRoomUptoSaid : Prop := fnRoomUptoRow.holds Tryz.pinned (OpenSpec.upto fnRoomSpec)

/-- 'laws.FnScanOrder', WHERE WHAT IT READS IS OF BULK AT MOST 1048576: true; the input reads as it did. -/
def fnScanOrderUptoRow : OpenClaim := { program := "yticpmdigfdpmfaagreat", sum := "1246d016a780ccf32da1e57369d394a76fd2efadf2231c388a73264f28fc105c", func := "loop.example/g03014/laws.FnScanOrder", spec := "fnScanOrder", inPlace := ["internal/bytealg.abigen_runtime_cmpstring", "internal/reflectlite.ValueOf", "internal/reflectlite.Swapper", "(internal/reflectlite.Value).Len"], unfollowed := true, recurses := true, apart := false, narrowed := true }
def FnScanOrderUptoSaid : Prop := fnScanOrderUptoRow.holds Tryz.pinned (OpenSpec.upto fnScanOrderSpec)

/-- 'laws.FnSure', WHERE WHAT IT READS IS OF BULK AT MOST 1048576: true; the input reads as it did. -/
def fnSureUptoRow : OpenClaim := { program := "yticpmdigfdpmfaagreat", sum := "1246d016a780ccf32da1e57369d394a76fd2efadf2231c388a73264f28fc105c", func := "loop.example/g03014/laws.FnSure", spec := "fnSure", inPlace := ["internal/bytealg.abigen_runtime_cmpstring", "internal/reflectlite.ValueOf", "internal/reflectlite.Swapper", "(internal/reflectlite.Value).Len"], unfollowed := true, recurses := true, apart := false, narrowed := true }
def FnSureUptoSaid : Prop := fnSureUptoRow.holds Tryz.pinned (OpenSpec.upto fnSureSpec)

/-- 'laws.FnMoreSeen', WHERE WHAT IT READS IS OF BULK AT MOST 1048576: true; the input reads as it did. -/
def fnMoreSeenUptoRow : OpenClaim := { program := "yticpmdigfdpmfaagreat", sum := "1246d016a780ccf32da1e57369d394a76fd2efadf2231c388a73264f28fc105c", func := "loop.example/g03014/laws.FnMoreSeen", spec := "fnMoreSeen", inPlace := ["internal/bytealg.abigen_runtime_cmpstring", "internal/reflectlite.ValueOf", "internal/reflectlite.Swapper", "(internal/reflectlite.Value).Len"], unfollowed := true, recurses := true, apart := false, narrowed := true }
def FnMoreSeenUptoSaid : Prop := fnMoreSeenUptoRow.holds Tryz.pinned (OpenSpec.upto fnMoreSeenSpec)

/-- 'laws.FnTruth', WHERE WHAT IT READS IS OF BULK AT MOST 1048576: true; the input reads as it did. -/
def fnTruthUptoRow : OpenClaim := { program := "yticpmdigfdpmfaagreat", sum := "1246d016a780ccf32da1e57369d394a76fd2efadf2231c388a73264f28fc105c", func := "loop.example/g03014/laws.FnTruth", spec := "fnTruth", inPlace := ["internal/bytealg.abigen_runtime_cmpstring", "internal/reflectlite.ValueOf", "internal/reflectlite.Swapper", "(internal/reflectlite.Value).Len"], unfollowed := true, recurses := true, apart := false, narrowed := true }
def FnTruthUptoSaid : Prop := fnTruthUptoRow.holds Tryz.pinned (OpenSpec.upto fnTruthSpec)

/-- 'laws.FnCleaned', WHERE WHAT IT READS IS OF BULK AT MOST 1048576: true; the input reads as it did. -/
def fnCleanedUptoRow : OpenClaim := { program := "yticpmdigfdpmfaagreat", sum := "1246d016a780ccf32da1e57369d394a76fd2efadf2231c388a73264f28fc105c", func := "loop.example/g03014/laws.FnCleaned", spec := "fnCleaned", inPlace := ["internal/bytealg.abigen_runtime_cmpstring", "internal/reflectlite.ValueOf", "internal/reflectlite.Swapper", "(internal/reflectlite.Value).Len"], unfollowed := true, recurses := true, apart := false, narrowed := true }
def FnCleanedUptoSaid : Prop := fnCleanedUptoRow.holds Tryz.pinned (OpenSpec.upto fnCleanedSpec)

/-- 'laws.FnBetween', WHERE WHAT IT READS IS OF BULK AT MOST 1048576: true; the input reads as it did. -/
def fnBetweenUptoRow : OpenClaim := { program := "yticpmdigfdpmfaagreat", sum := "1246d016a780ccf32da1e57369d394a76fd2efadf2231c388a73264f28fc105c", func := "loop.example/g03014/laws.FnBetween", spec := "fnBetween", inPlace := ["internal/bytealg.abigen_runtime_cmpstring", "internal/reflectlite.ValueOf", "internal/reflectlite.Swapper", "(internal/reflectlite.Value).Len"], unfollowed := true, recurses := true, apart := false, narrowed := true }
def FnBetweenUptoSaid : Prop := fnBetweenUptoRow.holds Tryz.pinned (OpenSpec.upto fnBetweenSpec)

end Rows
end Go.Proofs.YticpmdigfdpmfaaGreat
