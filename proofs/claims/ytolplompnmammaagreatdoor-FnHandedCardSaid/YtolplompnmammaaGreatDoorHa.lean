/- Part of the proofs of this seat's laws: Ha. No condition. -/
import Derived.Test.YtolplompnmammaaGreatDoorVf
import Derived.Test.YtolplompnmammaaGreatDoorTy
set_option linter.unusedVariables false
set_option linter.unusedSimpArgs false
set_option linter.unusedSectionVars false
namespace Go.Vs
open Go.IntWalk
set_option linter.unusedVariables false
set_option linter.unusedSimpArgs false
def rM {α:Type} (f:α→Nat) (l:List α):Nat:=(l.map f).sum
theorem Bg {α:Type} (f:α→Nat) {l:List α} {x:α} (h:x∈l):f x≤rM f l:=by
 unfold rM
 induction l with
 |nil=>cases h
 |cons y l ih=>
  simp only[List.map_cons,List.sum_cons]
  rcases List.mem_cons.1 h with h|h
  ·subst h;omega
  ·have:=ih h;omega
def Leg.tot (x:Leg):Nat:=x.From.size+x.To.size
def Network.tot (x:Network):Nat:=(x.Legs.length+rM (fun y=>Leg.tot y) x.Legs)+x.Off.length
def Scan.tot (x:Scan):Nat:=x.Place.size
def Belief.tot (x:Belief):Nat:=(x.Places.length+rM (fun y=>y.size) x.Places)+x.Rides.length
end Go.Vs
