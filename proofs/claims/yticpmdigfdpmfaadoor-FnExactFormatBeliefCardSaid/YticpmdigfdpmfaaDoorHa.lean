/- Part of the proofs of this seat's laws: Ha. No condition. -/
import Derived.Test.YticpmdigfdpmfaaDoorVf
import Derived.Test.YticpmdigfdpmfaaDoorTy
set_option linter.unusedVariables false
set_option linter.unusedSimpArgs false
set_option linter.unusedSectionVars false
namespace Go.Vs
open Go.IntWalk
set_option linter.unusedVariables false
set_option linter.unusedSimpArgs false
def cO {α:Type} (f:α→Nat) (l:List α):Nat:=(l.map f).sum
def Belief.tot (x:Belief):Nat:=(x.Places.length+cO (fun y=>y.size) x.Places)+x.Rides.length
def Belief.wd (x:Belief):Prop:=(x.Places.length≤9223372036854775807∧∀y∈x.Places,y.size≤9223372036854775807)∧x.Rides.length≤9223372036854775807
end Go.Vs
