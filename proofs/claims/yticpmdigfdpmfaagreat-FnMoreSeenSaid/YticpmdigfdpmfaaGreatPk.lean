/- What is left of scans stands: sorted, each following the one ahead; comparisons of the laws. -/
import Derived.Test.YticpmdigfdpmfaaGreatSoA
import Derived.Test.YticpmdigfdpmfaaGreatLae
set_option linter.unusedVariables false
set_option linter.unusedSimpArgs false
set_option linter.unusedSectionVars false
namespace Go.Vs
open Go.IntWalk
theorem D8 (n:Network) (l:List Scan):StrS (soB n l):=A8 _
theorem DY {n:Network} {l:List Scan} {x:Scan}:x∈soB n l↔x∈l.take 200∧scB n x=true:=by
 unfold soB okS
 rw[CU,List.mem_filter]
theorem DV {n:Network} {w:List Scan} (h1:StrS w) (h2:w.length≤200) (h3:∀x∈w,scB n x=true):soB n w=w:=by
 refine wG (D8 n w) h1 fun x=>?_
 rw[DY,List.take_of_length_le h2]
 exact⟨fun h=>h.1,fun h=>⟨h,h3 x h⟩⟩
theorem BJ {n:Network} {w:List Scan} {x:Int} (h1:StrS w) (h2:w.length≤200) (h3:∀s∈w,scB n s=true) (h4:∀s∈w,s.Thing=x):sofB n w x=w:=by
 unfold sofB
 rw[DV h1 h2 h3,List.filter_eq_self]
 exact fun s hs=>by simpa using h4 s hs
def Chn (n:Network):Option Scan→List Scan→Prop
 |_,[]=>True
 |none,x::l=>Chn n (some x) l
 |some p,x::l=>cfB n p x=true∧Chn n (some x) l
theorem tT {n:Network}:∀{l:List Scan} {p:Option Scan},Chn n p l→cnG n p l=l
 |[],p,_=>by cases p<;>rfl
 |x::l,none,h=>by rw[cnG,tT (l:=l) (p:=some x) h]
 |x::l,some p,h=>by rw[cnG,if_pos h.1,tT h.2]
theorem yV {n:Network}:∀{l:List Scan} {p:Scan} (k:Nat),Chn n (some p) l→clF n p k l=[]
 |[],p,k,_=>rfl
 |x::l,p,k,h=>by rw[clF,if_pos h.1,yV (k+1) h.2]
theorem Ck {n:Network} {l:List Scan} (h:Chn n none l):Hi n l=[]:=by
 cases l with
 |nil=>rfl
 |cons x l=>exact yV 1 h
theorem Ai {w:List Scan} {p:Scan→Bool}:w.reverse.find? p=(w.filter p).getLast? :=by
 rw[←List.head?_filter,List.filter_reverse,List.head?_reverse]
end Go.Vs
