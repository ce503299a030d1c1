/- What is left of scans stands: sorted, each following the one ahead; comparisons of the laws. -/
import Derived.Test.YticpmdigfdpmfaaGreatSoA
import Derived.Test.YticpmdigfdpmfaaGreatLab
import Derived.Test.YticpmdigfdpmfaaGreatLae
set_option linter.unusedVariables false
set_option linter.unusedSimpArgs false
set_option linter.unusedSectionVars false
namespace Go.Vs
open Go.IntWalk
theorem mp (n:Network) (l:List Scan):od (soB n l):=wj _
theorem oj {n:Network} {l:List Scan} {x:Scan}:x∈soB n l↔x∈l.take 200∧scB n x=true:=by
 unfold soB okS
 rw[xC,List.mem_filter]
theorem zB {n:Network} {w:List Scan} (h1:od w) (h2:w.length≤200) (h3:∀x∈w,scB n x=true):soB n w=w:=by
 refine oF (mp n w) h1 fun x=>?_
 rw[oj,List.take_of_length_le h2]
 exact⟨fun h=>h.1,fun h=>⟨h,h3 x h⟩⟩
theorem BM (n:Network) (l:List Scan) (x:Int):od (ir n l x):=(mp n l).sublist List.filter_sublist
theorem BZ {n:Network} {w:List Scan} {x:Int} (h1:od w) (h2:w.length≤200) (h3:∀s∈w,scB n s=true) (h4:∀s∈w,s.Thing=x):ir n w x=w:=by
 unfold ir
 rw[zB h1 h2 h3,List.filter_eq_self]
 exact fun s hs=>by simpa using h4 s hs
theorem B8 {n:Network} {l:List Scan} {x:Int} {s:Scan} (h:s∈ir n l x):scB n s=true∧s.Thing=x:=by
 have h2:=List.mem_filter.1 h
 exact⟨(oj.1 h2.1).2,by simpa using h2.2⟩
def Chn (n:Network):Option Scan→List Scan→Prop
 |_,[]=>True
 |none,x::l=>Chn n (some x) l
 |some p,x::l=>cfB n p x=true∧Chn n (some x) l
theorem qx (n:Network):∀(l:List Scan) (p:Option Scan),Chn n p (cnG n p l)
 |[],p=>by cases p<;>exact trivial
 |x::l,none=>by rw[cnG];exact qx n l (some x)
 |x::l,some p=>by
  rw[cnG]
  split
  ·exact⟨‹_›,qx n l (some x)⟩
  ·exact qx n l (some p)
theorem uZ {n:Network}:∀{l:List Scan} {p:Option Scan},Chn n p l→cnG n p l=l
 |[],p,_=>by cases p<;>rfl
 |x::l,none,h=>by rw[cnG,uZ (l:=l) (p:=some x) h]
 |x::l,some p,h=>by rw[cnG,if_pos h.1,uZ h.2]
theorem zS {n:Network}:∀{l:List Scan} {p:Scan} (k:Nat),Chn n (some p) l→clF n p k l=[]
 |[],p,k,_=>rfl
 |x::l,p,k,h=>by rw[clF,if_pos h.1,zS (k+1) h.2]
theorem Df {n:Network} {l:List Scan} (h:Chn n none l):Gr n l=[]:=by
 cases l with
 |nil=>rfl
 |cons x l=>exact zS 1 h
theorem uA {n:Network}:∀{l:List Scan} {p:Option Scan} {k:Nat} {a b:Scan},Chn n p l→l[k]?=some a→l[k+1]?=some b→cfB n a b=true
 |[],_,_,_,_,_,h,_=>by simp at h
 |x::l,p,0,a,b,h,ha,hb=>by
  simp at ha
  subst ha
  have hc:Chn n (some x) l:=by cases p with
   |none=>exact h
   |some q=>exact h.2
  cases l with
  |nil=>simp at hb
  |cons y l=>simp at hb;subst hb;exact hc.1
 |x::l,p,k+1,a,b,h,ha,hb=>by
  have hc:Chn n (some x) l:=by cases p with
   |none=>exact h
   |some q=>exact h.2
  exact uA hc (by simpa using ha) (by simpa using hb)
theorem Ak (n:Network) (l:List Scan) (x:Int):(cnB n l x).Sublist (ir n l x):=nF n _ _
theorem zj (n:Network) (l:List Scan) (x:Int):od (cnB n l x):=(BM n l x).sublist (Ak n l x)
theorem zH {n:Network} {l:List Scan} {x:Int} {s:Scan} (h:s∈cnB n l x):scB n s=true∧s.Thing=x:=B8 ((Ak n l x).subset h)
theorem qw (n:Network) (l:List Scan) (x:Int):Chn n none (cnB n l x):=qx n _ _
theorem Ad (n:Network) (l:List Scan) (x:Int):ir n (cnB n l x) x=cnB n l x:=
 BZ (zj n l x) (qq n l x) (fun _ h=>(zH h).1) (fun _ h=>(zH h).2)
theorem Fk (n:Network) (l:List Scan) (x:Int):cnB n (cnB n l x) x=cnB n l x:=by
 show cnG n none (ir n (cnB n l x) x)=_
 rw[Ad];exact uZ (qw n l x)
theorem DP (n:Network) (l:List Scan) (x:Int):vG n (cnB n l x) x=[]:=by
 unfold vG
 rw[Ad];exact Df (qw n l x)
theorem zN {n:Network} {l:List Scan} {x:Int}:cnB n l x=[]↔ir n l x=[]:=by
 unfold cnB
 cases ir n l x with
 |nil=>simp[cnG]
 |cons y m=>simp[cnG]
theorem wY (a:List Scan) (ha:a.length≤1048576):∀(l:List Scan) (k:Nat),a.drop k=l→eQ G.real TE.real a l (k:Int)=some (.out ())
 |[],k,_=>by rw[eQ]
 |z::l,k,h=>by
  have hk:k<a.length:=by
   have:=congrArg List.length h
   simp at this;omega
  have hz:a[k]?=some z:=by
   have:(a.drop k)[0]?=some z:=by rw[h];rfl
   simpa using this
  have h3:a.drop (k+1)=l:=by
   have:=congrArg List.tail h
   simpa using this
  rw[eQ]
  simp only[bp,Int.toNat_natCast]
  rw[aq hz]
  simp only[dM,gn,tn,List.all_cons,List.all_nil,decide_true,id,Bool.and_self,cu,bq]
  rw[w64 (by omega) (by omega),show(k:Int)+1=((k+1:Nat):Int) by omega]
  exact wY a ha l (k+1) h3
theorem qt (a:List Scan) (ha:a.length≤1048576):iJ G.real TE.real a a=some true:=by
 unfold iJ
 simp only[dM,decide_true,cu]
 rw[show(0:Int)=((0:Nat):Int) from rfl,wY a ha a 0 rfl]
 rfl
theorem Am (a:List Int) (ha:a.length≤1048576):∀(l:List Int) (k:Nat),a.drop k=l→f7 G.real TE.real a l (k:Int)=some (.out ())
 |[],k,_=>by rw[f7]
 |z::l,k,h=>by
  have hk:k<a.length:=by
   have:=congrArg List.length h
   simp at this;omega
  have hz:a[k]?=some z:=by
   have:(a.drop k)[0]?=some z:=by rw[h];rfl
   simpa using this
  have h3:a.drop (k+1)=l:=by
   have:=congrArg List.tail h
   simpa using this
  rw[f7]
  simp only[bp,Int.toNat_natCast]
  rw[aq hz]
  simp only[dM,decide_true,cu,bq]
  rw[w64 (by omega) (by omega),show(k:Int)+1=((k+1:Nat):Int) by omega]
  exact Am a ha l (k+1) h3
theorem FK (a:List Int) (ha:a.length≤1048576):sr G.real TE.real a a=some true:=by
 unfold sr
 simp only[dM,decide_true,cu]
 rw[show(0:Int)=((0:Nat):Int) from rfl,Am a ha a 0 rfl]
 rfl
theorem zA (n:Network):Network.mk n.Legs n.Off n.Change=n:=rfl
end Go.Vs
