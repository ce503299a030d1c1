/- Part of the proofs of this seat's laws: Ha. No condition. -/
import Derived.Test.YtilplaaijbpilaaGreatVf
import Derived.Test.YtilplaaijbpilaaGreatTy
set_option linter.unusedVariables false
set_option linter.unusedSimpArgs false
set_option linter.unusedSectionVars false
namespace Go.Vs
open Go.IntWalk
set_option linter.unusedVariables false
set_option linter.unusedSimpArgs false
def dL {α:Type} (f:α→Nat) (l:List α):Nat:=(l.map f).sum
theorem my {α:Type} (f:α→Nat) {l:List α} {x:α} (h:x∈l):f x≤dL f l:=by
 unfold dL
 induction l with
 |nil=>cases h
 |cons y l ih=>
  simp only[List.map_cons,List.sum_cons]
  rcases List.mem_cons.1 h with h|h
  ·subst h;omega
  ·have:=ih h;omega
def Leg.tot (x:Leg):Nat:=x.From.size+x.To.size
def Leg.wd (x:Leg):Prop:=x.From.size≤9223372036854775807∧x.To.size≤9223372036854775807
def Network.tot (x:Network):Nat:=(x.Legs.length+dL (fun y=>Leg.tot y) x.Legs)+x.Off.length
def Network.wd (x:Network):Prop:=(x.Legs.length≤9223372036854775807∧∀y∈x.Legs,Leg.wd y)∧x.Off.length≤9223372036854775807
def Scan.tot (x:Scan):Nat:=x.Place.size
def Scan.wd (x:Scan):Prop:=x.Place.size≤9223372036854775807
def Belief.tot (x:Belief):Nat:=(x.Places.length+dL (fun y=>y.size) x.Places)+x.Rides.length
def Belief.wd (x:Belief):Prop:=(x.Places.length≤9223372036854775807∧∀y∈x.Places,y.size≤9223372036854775807)∧x.Rides.length≤9223372036854775807
end Go.Vs
