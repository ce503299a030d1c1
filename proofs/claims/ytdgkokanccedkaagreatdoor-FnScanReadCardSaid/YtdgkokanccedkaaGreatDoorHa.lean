/- Part of the proofs of this seat's laws: Ha. No condition. -/
import Derived.Test.YtdgkokanccedkaaGreatDoorVf
import Derived.Test.YtdgkokanccedkaaGreatDoorTy
set_option linter.unusedVariables false
set_option linter.unusedSimpArgs false
set_option linter.unusedSectionVars false
namespace Go.Vs
open Go.IntWalk
set_option linter.unusedVariables false
set_option linter.unusedSimpArgs false
def fT {α:Type} (f:α→Nat) (l:List α):Nat:=(l.map f).sum
theorem nP {α:Type} (f:α→Nat) {l:List α} {x:α} (h:x∈l):f x≤fT f l:=by
 unfold fT
 induction l with
 |nil=>cases h
 |cons y l ih=>
  simp only[List.map_cons,List.sum_cons]
  rcases List.mem_cons.1 h with h|h
  ·subst h;omega
  ·have:=ih h;omega
def Leg.tot (x:Leg):Nat:=x.From.size+x.To.size
def Leg.wd (x:Leg):Prop:=x.From.size≤9223372036854775807∧x.To.size≤9223372036854775807
def Network.tot (x:Network):Nat:=(x.Legs.length+fT (fun y=>Leg.tot y) x.Legs)+x.Off.length
def Network.wd (x:Network):Prop:=(x.Legs.length≤9223372036854775807∧∀y∈x.Legs,Leg.wd y)∧x.Off.length≤9223372036854775807
def Scan.tot (x:Scan):Nat:=x.Place.size
def Scan.wd (x:Scan):Prop:=x.Place.size≤9223372036854775807
end Go.Vs
