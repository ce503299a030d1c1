/- What is left of scans stands: sorted, each following the one ahead; comparisons of the laws. -/
import Derived.Test.YticpmdigfdpmfaaGreatSoA
import Derived.Test.YticpmdigfdpmfaaGreatLad
set_option linter.unusedVariables false
set_option linter.unusedSimpArgs false
set_option linter.unusedSectionVars false
namespace Go.Vs
open Go.IntWalk
theorem Er (n:Network) (l:List Scan):StrS (soB n l):=Cj _
theorem Ei {n:Network} {l:List Scan} {x:Scan}:x∈soB n l↔x∈l.take 200∧scB n x=true:=by
 unfold soB okS
 rw[Cd,List.mem_filter]
theorem DN {n:Network} {w:List Scan} (h1:StrS w) (h2:w.length≤200) (h3:∀x∈w,scB n x=true):soB n w=w:=by
 refine wY (Er n w) h1 fun x=>?_
 rw[Ei,List.take_of_length_le h2]
 exact⟨fun h=>h.1,fun h=>⟨h,h3 x h⟩⟩
theorem Bw {n:Network} {w:List Scan} {x:Int} (h1:StrS w) (h2:w.length≤200) (h3:∀s∈w,scB n s=true) (h4:∀s∈w,s.Thing=x):sofB n w x=w:=by
 unfold sofB
 rw[DN h1 h2 h3,List.filter_eq_self]
 exact fun s hs=>by simpa using h4 s hs
def Chn (n:Network):Option Scan→List Scan→Prop
 |_,[]=>True
 |none,x::l=>Chn n (some x) l
 |some p,x::l=>cfB n p x=true∧Chn n (some x) l
theorem uu {n:Network}:∀{l:List Scan} {p:Option Scan},Chn n p l→cnG n p l=l
 |[],p,_=>by cases p<;>rfl
 |x::l,none,h=>by rw[cnG,uu (l:=l) (p:=some x) h]
 |x::l,some p,h=>by rw[cnG,if_pos h.1,uu h.2]
theorem yK {n:Network}:∀{l:List Scan} {p:Scan} (k:Nat),Chn n (some p) l→clF n p k l=[]
 |[],p,k,_=>rfl
 |x::l,p,k,h=>by rw[clF,if_pos h.1,yK (k+1) h.2]
theorem CB {n:Network} {l:List Scan} (h:Chn n none l):HM n l=[]:=by
 cases l with
 |nil=>rfl
 |cons x l=>exact yK 1 h
theorem wO (a:List Scan) (ha:a.length≤1048576):∀(l:List Scan) (k:Nat),a.drop k=l→eG G.real TE.real a l (k:Int)=some (.out ())
 |[],k,_=>by rw[eG]
 |z::l,k,h=>by
  have hk:k<a.length:=by
   have:=congrArg List.length h
   simp at this;omega
  have hz:a[k]?=some z:=by
   have:(a.drop k)[0]?=some z:=by rw[h];rfl
   simpa using this
  have h3:a.drop (k+1)=l:=by
   have:=congrArg List.tail h
   simpa using this
  rw[eG]
  simp only[bo,Int.toNat_natCast]
  rw[ar hz]
  simp only[de,fE,wg,List.all_cons,List.all_nil,decide_true,id,Bool.and_self,bS,bh]
  rw[w64 (by omega) (by omega),show(k:Int)+1=((k+1:Nat):Int) by omega]
  exact wO a ha l (k+1) h3
theorem DJ (a:List Scan) (ha:a.length≤1048576):n5 G.real TE.real a a=some true:=by
 unfold n5
 simp only[de,decide_true,bS]
 rw[show(0:Int)=((0:Nat):Int) from rfl,wO a ha a 0 rfl]
 rfl
theorem zZ {w:List Scan} {p:Scan→Bool}:w.reverse.find? p=(w.filter p).getLast? :=by
 rw[←List.head?_filter,List.filter_reverse,List.head?_reverse]
theorem vc (n:Network):Network.mk n.Legs n.Off n.Change=n:=rfl
end Go.Vs
