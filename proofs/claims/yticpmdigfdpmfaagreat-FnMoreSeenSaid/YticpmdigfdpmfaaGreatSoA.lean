/- Part of the proofs of this seat's laws: SoA. No condition. -/
import Derived.Test.YticpmdigfdpmfaaGreatLac
import Derived.Test.YticpmdigfdpmfaaGreatWays
import Derived.Test.YticpmdigfdpmfaaGreatLae
import Derived.Test.YticpmdigfdpmfaaGreatLad
set_option linter.unusedVariables false
set_option linter.unusedSimpArgs false
set_option linter.unusedSectionVars false
namespace Go.Vs
open Go.IntWalk
theorem CN (a b:Scan):G.real.all [decide (a.Thing=b.Thing),decide (a.At=b.At),decide (a.Kind=b.Kind),decide (a.Place=b.Place),decide (a.Trip.Leg=b.Trip.Leg),decide (a.Trip.Day=b.Trip.Day)]=decide (cmS a b=0):=by
 have h:(cmS a b=0)↔(a.Thing=b.Thing∧a.At=b.At∧a.Kind=b.Kind∧a.Place=b.Place∧a.Trip.Leg=b.Trip.Leg∧a.Trip.Day=b.Trip.Day):=by
  constructor
  ·intro e
   have:=nu e
   subst this
   exact⟨rfl,rfl,rfl,rfl,rfl,rfl⟩
  ·rintro⟨h1,h2,h3,h4,h5,h6⟩
   have:a=b:=by
    cases a with
    |mk t1 a1 k1 p1 tr1=>cases b with
     |mk t2 a2 k2 p2 tr2=>cases tr1;cases tr2;simp_all
   subst this
   exact uV a
 rw[yv]
 simp only[List.all_cons,List.all_nil,id,Bool.and_true,←Bool.decide_and]
 exact decide_eq_decide.2 h.symm
theorem f5 (z:Scan):Scan.mk z.Thing z.At z.Kind z.Place (Trip.mk z.Trip.Leg z.Trip.Day)=z:=rfl
theorem xH {n:Network} (ht:n.tot≤1048576):∀(l w:List Scan),w.length+l.length≤4194304→bO G.real TE.real n l w=some (w++l.filter (scB n))
 |[],w,_=>by rw[bO];simp
 |z::l,w,h=>by
  simp only[List.length_cons] at h
  rw[bO]
  simp only[f5,AH ht,af,aU]
  cases hb:scB n z with
  |true=>
   rw[c7,ah (by simp;omega),xH ht l _ (by simp;omega),List.filter_cons_of_pos hb];simp
  |false=>
   rw[lJ,xH ht l _ (by omega),List.filter_cons_of_neg (by simp[hb])]
def ddG (l:List Scan) (k:Nat):List Scan:=ddF (if k=0 then none else l[k-1]?) (l.drop k)
theorem tS (l:List Scan) (hl:l.length≤4194304):∀(m k:Nat) (w:List Scan),k+m=l.length→w.length≤k→bu G.real TE.real l m (k:Int) w=some (w++ddG l k)
 |0,k,w,h,_=>by
  rw[bu,ddG,List.drop_of_length_le (by omega)]
  cases (if k=0 then none else l[k-1]?)<;>simp[ddF]
 |m+1,k,w,h,hw=>by
  have hk:k<l.length:=by omega
  have hg:=List.getElem?_eq_getElem hk
  rw[bu]
  simp only[eE,bE,Int.toNat_natCast,bx,kQ,dM,fT,aU,f5]
  rw[ah (by omega),ar hg,w64 (n:=(k:Int)+1) (by omega) (by omega),show(k:Int)+1=((k+1:Nat):Int) from by omega]
  rw[ddG,List.drop_eq_getElem_cons hk]
  have e1:ddF (some l[k]) (l.drop (k+1))=ddG l (k+1):=by
   rw[ddG,if_neg (by omega),show k+1-1=k from rfl,hg]
  by_cases h0:k=0
  ·rw[am,if_pos (by omega),ah (by simp;omega),tS l hl m (k+1) _ (by omega) (by simp;omega),if_pos h0,ddF,e1]
   simp
  ·have hp:l[k-1]?=some (l[k-1]'(by omega)):=List.getElem?_eq_getElem (by omega)
   rw[am,if_neg (by omega),w64 (by omega) (by omega),ah (by omega),show((k:Int)-1).toNat=k-1 from by omega,ar hp,CN,am,if_neg h0,hp,ddF]
   by_cases hc:cmS (l[k-1]'(by omega)) l[k]=0
   ·rw[if_pos hc,if_pos hc,tS l hl m (k+1) _ (by omega) (by omega),e1]
   ·rw[if_neg hc,if_neg hc,ah (by simp;omega),tS l hl m (k+1) _ (by omega) (by simp;omega),e1]
    simp
def okS (n:Network) (l:List Scan):List Scan:=(l.take 200).filter (scB n)
theorem yd (n:Network) (l:List Scan):(okS n l).length≤200:=by
 unfold okS
 have:=List.length_filter_le (scB n) (l.take 200)
 simp at this ⊢
 omega
def soB (n:Network) (l:List Scan):List Scan:=Ak (okS n l)
theorem yY (n:Network) (l:List Scan):(soB n l).length≤200:=Nat.le_trans (Bt _) (yd n l)
theorem so_i {n:Network} (ht:n.tot≤1048576) (l:List Scan) (hl:l.length≤1048576):gZ G.real TE.real n l=some (soB n l):=by
 have h2:=yd n l
 unfold gZ mQ
 have hm:G.real.imin (l.length:Int) 200=((min l.length 200:Nat):Int):=by
  show min (l.length:Int) 200=_
  omega
 simp only[Aa,xj,hm,bE,Int.toNat_natCast,Int.toNat_zero,List.drop_zero,aU,eE,eB]
 have ht2:l.take (min l.length 200)=l.take 200:=by
  rw[Nat.min_comm,←List.take_eq_take_min]
 rw[ah (by omega),ht2,xH ht _ _ (by simp;omega),af,List.nil_append,show(l.take 200).filter (scB n)=okS n l from rfl,ah (by omega),af,ah (by omega)]
 have hc:aA 0 ((okS n l).length:Int)=(okS n l).length:=by unfold aA;omega
 have hlm:((okS n l).mergeSort leS).length=(okS n l).length:=List.length_mergeSort _
 rw[hc,show(0:Int)=((0:Nat):Int) from rfl,tS _ (by omega) _ 0 [] (by omega) (by simp),af]
 simp[ddG,soB,Ak]
def sofB (n:Network) (l:List Scan) (x:Int):List Scan:=(soB n l).filter fun s=>decide (s.Thing=x)
theorem wu (n:Network) (l:List Scan) (x:Int):(sofB n l x).length≤200:=Nat.le_trans (List.length_filter_le _ _) (yY n l)
theorem wV (x:Int) (l:List Scan) (hl:l.length≤4194304):∀(m k:Nat) (w:List Scan),k+m=l.length→w.length≤k→cE G.real TE.real x l m (k:Int) w=some (w++(l.drop k).filter fun s=>decide (s.Thing=x))
 |0,k,w,h,_=>by rw[cE,List.drop_of_length_le (by omega)];simp
 |m+1,k,w,h,hw=>by
  have hk:k<l.length:=by omega
  rw[cE]
  simp only[bE,Int.toNat_natCast,bx,dM,aU,f5,am]
  rw[ar (List.getElem?_eq_getElem hk),w64 (by omega) (by omega),show(k:Int)+1=((k+1:Nat):Int) from by omega,List.drop_eq_getElem_cons hk]
  by_cases hc:l[k].Thing=x
  ·rw[if_pos hc,ah (by simp;omega),wV x l hl m (k+1) _ (by omega) (by simp;omega),List.filter_cons_of_pos (by simp[hc])];simp
  ·rw[if_neg hc,wV x l hl m (k+1) _ (by omega) (by omega),List.filter_cons_of_neg (by simp[hc])]
theorem Gg {n:Network} (ht:n.tot≤1048576) (l:List Scan) (hl:l.length≤1048576) (x:Int):jA G.real TE.real n l x=some (sofB n l x):=by
 have h2:=yY n l
 unfold jA
 simp only[aU,so_i ht l hl,af,eE,eB]
 have hc:aA 0 ((soB n l).length:Int)=(soB n l).length:=by unfold aA;omega
 rw[ah (by omega),hc,show(0:Int)=((0:Nat):Int) from rfl,wV x _ (by omega) _ 0 [] (by omega) (by simp),af]
 simp[sofB]
end Go.Vs
namespace Go.Vs
open Go.IntWalk
def clF (n:Network):Scan→Nat→List Scan→List Int
 |_,_,[]=>[]
 |p,k,x::l=>if cfB n p x=true then clF n x (k+1) l else(k:Int)::clF n x (k+1) l
def Hi (n:Network):List Scan→List Int
 |[]=>[]
 |x::l=>clF n x 1 l
def clsB (n:Network) (l:List Scan) (x:Int):List Int:=Hi n (sofB n l x)
def cnG (n:Network):Option Scan→List Scan→List Scan
 |_,[]=>[]
 |none,x::l=>x::cnG n (some x) l
 |some p,x::l=>if cfB n p x=true then x::cnG n (some x) l else cnG n (some p) l
def cnB (n:Network) (l:List Scan) (x:Int):List Scan:=cnG n none (sofB n l x)
theorem nA (n:Network):∀(l:List Scan) (p:Option Scan),(cnG n p l).Sublist l
 |[],p=>by cases p<;>exact List.Sublist.refl _
 |x::l,none=>by rw[cnG];exact(nA n l (some x)).cons_cons x
 |x::l,some p=>by
  rw[cnG];split
  ·exact(nA n l (some x)).cons_cons x
  ·exact(nA n l (some p)).cons x
theorem xX (n:Network) (l:List Scan) (x:Int):(cnB n l x).length≤200:=Nat.le_trans (nA n _ _).length_le (wu n l x)
theorem AI (w:List Scan) (z:Scan):(w++[z]).getLast? =some z:=by simp
theorem ur {n:Network} (ht:n.tot≤1048576) (l:List Scan) (hl:l.length≤1048576):∀(m k:Nat) (w:List Scan),k+m=l.length→w.length≤k→bZ G.real TE.real n l m (k:Int) w=some (w++cnG n w.getLast? (l.drop k))
 |0,k,w,h,_=>by rw[bZ,List.drop_of_length_le (by omega)];cases w.getLast? <;>simp[cnG]
 |m+1,k,w,h,hw=>by
  have hk:k<l.length:=by omega
  rw[bZ]
  simp only[bE,Int.toNat_natCast,bx,kQ,dM,eB,aU,f5,eE]
  rw[ar (List.getElem?_eq_getElem hk),w64 (n:=(k:Int)+1) (by omega) (by omega),show(k:Int)+1=((k+1:Nat):Int) from by omega,List.drop_eq_getElem_cons hk]
  by_cases h0:w=[]
  ·subst h0
   rw[show decide ((([]:List Scan).length:Int)=0)=true from rfl,c7,ah (by simp),ur ht l hl m (k+1) _ (by omega) (by simp),show([]:List Scan).getLast? =none from rfl,show cnG n none (l[k]::l.drop (k+1))=l[k]::cnG n (some l[k]) (l.drop (k+1)) from rfl]
   simp
  ·have hwl:0<w.length:=List.length_pos_iff.2 h0
   have hp:w[w.length-1]?=some (w[w.length-1]'(by omega)):=List.getElem?_eq_getElem (by omega)
   have hlast:w.getLast? =some (w[w.length-1]'(by omega)):=by rw[List.getLast?_eq_getElem?,hp]
   rw[am,if_neg (by omega),w64 (by omega) (by omega),ah (by omega),show((w.length:Int)-1).toNat=w.length-1 from by omega,ar hp,cf_i ht (eX ht),af,hlast,cnG]
   cases hc:cfB n (w[w.length-1]'(by omega)) l[k] with
   |true=>
    rw[c7,if_pos rfl,ah (by simp;omega),ur ht l hl m (k+1) _ (by omega) (by simp;omega),AI];simp
   |false=>rw[lJ,if_neg (by simp),ur ht l hl m (k+1) _ (by omega) (by omega),hlast]
theorem GB {n:Network} (ht:n.tot≤1048576) (l:List Scan) (hl:l.length≤1048576) (x:Int):it G.real TE.real n l x=some (cnB n l x):=by
 have h2:=wu n l x
 unfold it
 simp only[aU,Gg ht l hl,af,eE,eB]
 have hc:aA 0 ((sofB n l x).length:Int)=(sofB n l x).length:=by unfold aA;omega
 rw[ah (by omega),hc,show(0:Int)=((0:Nat):Int) from rfl,ur ht _ (by omega) _ 0 [] (by omega) (by simp),af]
 rfl
def z0S:Scan:=⟨0,0,0,.empty,⟨0,0⟩⟩
def opS:Option Scan→Scan×Bool
 |some s=>(s,true)
 |none=>(z0S,false)
def laB (n:Network) (l:List Scan) (x at_:Int):Scan×Bool:=opS ((cnB n l x).reverse.find? fun s=>decide (s.At≤at_))
def nxB (n:Network) (l:List Scan) (x at_:Int):Scan×Bool:=opS ((cnB n l x).find? fun s=>decide (at_<s.At))
theorem Bq (a:Int) (l:List Scan) (hl:l.length≤1048576):∀(k f:Nat),k≤l.length→k<f→cK G.real TE.real a l f ((k:Int)-1)=some (match (l.take k).reverse.find? fun s=>decide (s.At≤a) with|some s=>.ret (s,true)|none=>.out ())
 |0,f+1,_,_=>by rw[cK,jI,am,if_neg (by omega)];rfl
 |k+1,f+1,h,hf=>by
  have hk:k<l.length:=by omega
  have hg:=List.getElem?_eq_getElem hk
  rw[cK]
  simp only[jI,bE,eE,kQ,f5,am]
  rw[if_pos (by omega),show((k+1:Nat):Int)-1=(k:Int) by omega,ah (by omega),Int.toNat_natCast,ar hg,w64 (by omega) (by omega),Bq a l hl k f (by omega) (by omega)]
  rw[List.take_add_one,hg,Option.toList_some,List.reverse_append,List.reverse_singleton,List.singleton_append,List.find?_cons]
  by_cases hc:l[k].At≤a
  ·rw[if_pos hc,ah (by omega),decide_eq_true hc]
  ·rw[if_neg hc,decide_eq_false hc]
theorem la_i {n:Network} (ht:n.tot≤1048576) (l:List Scan) (hl:l.length≤1048576) (x a:Int):iD G.real TE.real n l x a=some (laB n l x a):=by
 have h2:=xX n l x
 unfold iD
 rw[GB ht l hl,af]
 simp only[eE,eB,kQ]
 rw[w64 (by omega) (by omega),Bq a _ (by omega) _ _ (Nat.le_refl _) (by omega),List.take_length,af]
 unfold laB
 cases (cnB n l x).reverse.find? fun s=>decide (s.At≤a)<;>rfl
theorem CL (a:Int) (l:List Scan) (hl:l.length≤1048576):∀(m k:Nat),k+m=l.length→cR G.real TE.real a l m (k:Int)=some (match (l.drop k).find? fun s=>decide (a<s.At) with|some s=>.ret (s,true)|none=>.out ())
 |0,k,h=>by rw[cR,List.drop_of_length_le (by omega)];rfl
 |m+1,k,h=>by
  have hk:k<l.length:=by omega
  rw[cR]
  simp only[bE,Int.toNat_natCast,bx,ea,f5,am]
  rw[ar (List.getElem?_eq_getElem hk),w64 (by omega) (by omega),show(k:Int)+1=((k+1:Nat):Int) from by omega,CL a l hl m (k+1) (by omega),List.drop_eq_getElem_cons hk,List.find?_cons]
  by_cases hc:a<l[k].At
  ·rw[if_pos hc,decide_eq_true hc]
  ·rw[if_neg hc,decide_eq_false hc]
theorem nx_i {n:Network} (ht:n.tot≤1048576) (l:List Scan) (hl:l.length≤1048576) (x a:Int):iM G.real TE.real n l x a=some (nxB n l x a):=by
 have h2:=xX n l x
 unfold iM
 rw[GB ht l hl,af]
 simp only[eE,eB]
 have hc:aA 0 ((cnB n l x).length:Int)=(cnB n l x).length:=by unfold aA;omega
 rw[ah (by omega),hc,show(0:Int)=((0:Nat):Int) from rfl,CL a _ (by omega) _ _ (by omega),af,List.drop_zero]
 unfold nxB
 cases (cnB n l x).find? fun s=>decide (a<s.At)<;>rfl
end Go.Vs
namespace Go.Vs
open Go.IntWalk
theorem pI:∀(l:List Scan) (p:Option Scan),(ddF p l).Sublist l
 |[],p=>by cases p<;>exact List.Sublist.refl _
 |x::l,none=>by rw[ddF];exact(pI l (some x)).cons_cons x
 |x::l,some p=>by
  rw[ddF];split
  ·exact(pI l (some x)).cons x
  ·exact(pI l (some x)).cons_cons x
end Go.Vs
