/- Part of the proofs of this seat's laws: GbA. No condition. -/
import Derived.Test.YtilplaaijbpilaaGreatSoA
import Derived.Test.YtilplaaijbpilaaGreatCy
import Derived.Test.YtilplaaijbpilaaGreatLae
import Derived.Test.YtilplaaijbpilaaGreatLad
import Derived.Test.YtilplaaijbpilaaGreatLab
set_option linter.unusedVariables false
set_option linter.unusedSimpArgs false
set_option linter.unusedSectionVars false
namespace Go.Vs
open Go.IntWalk
def cnG (n:Network):Option Scan→List Scan→List Scan
 |_,[]=>[]
 |none,x::l=>x::cnG n (some x) l
 |some p,x::l=>if cfB n p x=true then x::cnG n (some x) l else cnG n (some p) l
def cnB (n:Network) (l:List Scan) (x:Int):List Scan:=cnG n none (uM n l x)
theorem oY (n:Network):∀(l:List Scan) (p:Option Scan),(cnG n p l).Sublist l
 |[],p=>by cases p<;>exact List.Sublist.refl _
 |x::l,none=>by rw[cnG];exact(oY n l (some x)).cons_cons x
 |x::l,some p=>by
  rw[cnG];split
  ·exact(oY n l (some x)).cons_cons x
  ·exact(oY n l (some p)).cons x
theorem zo (n:Network) (l:List Scan) (x:Int):(cnB n l x).length≤200:=Nat.le_trans (oY n _ _).length_le (sP n l x)
theorem tX (w:List Scan) (z:Scan):(w++[z]).getLast? =some z:=by simp
theorem uO {n:Network} (ht:n.tot≤1048576) (l:List Scan) (hl:l.length≤1048576):∀(m k:Nat) (w:List Scan),k+m=l.length→w.length≤k→cR G.real TE.real n l m (k:Int) w=some (w++cnG n w.getLast? (l.drop k))
 |0,k,w,h,_=>by rw[cR,List.drop_of_length_le (by omega)];cases w.getLast? <;>simp[cnG]
 |m+1,k,w,h,hw=>by
  have hk:k<l.length:=by omega
  rw[cR]
  simp only[aQ,Int.toNat_natCast,bc,k8,cB,bY,az,eB,bT]
  rw[ar (List.getElem?_eq_getElem hk),w64 (n:=(k:Int)+1) (by omega) (by omega),show(k:Int)+1=((k+1:Nat):Int) from by omega,List.drop_eq_getElem_cons hk]
  by_cases h0:w=[]
  ·subst h0
   rw[show decide ((([]:List Scan).length:Int)=0)=true from rfl,bd,ag (by simp),uO ht l hl m (k+1) _ (by omega) (by simp),show([]:List Scan).getLast? =none from rfl,show cnG n none (l[k]::l.drop (k+1))=l[k]::cnG n (some l[k]) (l.drop (k+1)) from rfl]
   simp
  ·have hwl:0<w.length:=List.length_pos_iff.2 h0
   have hp:w[w.length-1]?=some (w[w.length-1]'(by omega)):=List.getElem?_eq_getElem (by omega)
   have hlast:w.getLast? =some (w[w.length-1]'(by omega)):=by rw[List.getLast?_eq_getElem?,hp]
   rw[am,if_neg (by omega),w64 (by omega) (by omega),ag (by omega),show((w.length:Int)-1).toNat=w.length-1 from by omega,ar hp,cf_i ht (de ht),af,hlast,cnG]
   cases hc:cfB n (w[w.length-1]'(by omega)) l[k] with
   |true=>
    rw[bd,if_pos rfl,ag (by simp;omega),uO ht l hl m (k+1) _ (by omega) (by simp;omega),tX];simp
   |false=>rw[gX,if_neg (by simp),uO ht l hl m (k+1) _ (by omega) (by omega),hlast]
theorem vd {n:Network} (ht:n.tot≤1048576) (l:List Scan) (hl:l.length≤1048576):∀(m k:Nat) (w:List Scan),k+m=l.length→w.length≤k→cQ G.real TE.real n l m (k:Int) w=some (w++cnG n w.getLast? (l.drop k))
 |0,k,w,h,_=>by rw[cQ,List.drop_of_length_le (by omega)];cases w.getLast? <;>simp[cnG]
 |m+1,k,w,h,hw=>by
  have hk:k<l.length:=by omega
  rw[cQ]
  simp only[aQ,Int.toNat_natCast,bc,k8,cB,bY,az,eB,bT]
  rw[w64 (n:=(k:Int)+1) (by omega) (by omega),show(k:Int)+1=((k+1:Nat):Int) from by omega,List.drop_eq_getElem_cons hk]
  by_cases h0:w=[]
  ·subst h0
   rw[show decide ((([]:List Scan).length:Int)=0)=true from rfl,bd,ar (List.getElem?_eq_getElem hk),ag (by simp),vd ht l hl m (k+1) _ (by omega) (by simp),show([]:List Scan).getLast? =none from rfl,show cnG n none (l[k]::l.drop (k+1))=l[k]::cnG n (some l[k]) (l.drop (k+1)) from rfl]
   simp
  ·have hwl:0<w.length:=List.length_pos_iff.2 h0
   have hp:w[w.length-1]?=some (w[w.length-1]'(by omega)):=List.getElem?_eq_getElem (by omega)
   have hlast:w.getLast? =some (w[w.length-1]'(by omega)):=by rw[List.getLast?_eq_getElem?,hp]
   rw[am,if_neg (by omega),w64 (by omega) (by omega),ag (by omega),show((w.length:Int)-1).toNat=w.length-1 from by omega,ar hp,ar (List.getElem?_eq_getElem hk),cf_s ht (de ht),af,hlast,cnG]
   cases hc:cfB n (w[w.length-1]'(by omega)) l[k] with
   |true=>
    rw[bd,if_pos rfl,ag (by simp;omega),vd ht l hl m (k+1) _ (by omega) (by simp;omega),tX];simp
   |false=>rw[gX,if_neg (by simp),vd ht l hl m (k+1) _ (by omega) (by omega),hlast]
theorem Ee {n:Network} (ht:n.tot≤1048576) (l:List Scan) (hl:l.length≤1048576) (x:Int):jh G.real TE.real n l x=some (cnB n l x):=by
 have h2:=sP n l x
 unfold jh
 simp only[az,EV ht l hl,af,bT,bY]
 have hc:aq 0 ((uM n l x).length:Int)=(uM n l x).length:=by unfold aq;omega
 rw[ag (by omega),hc,show(0:Int)=((0:Nat):Int) from rfl,uO ht _ (by omega) _ 0 [] (by omega) (by simp),af]
 rfl
theorem Ia {n:Network} (ht:n.tot≤1048576) (l:List Scan) (hl:l.length≤1048576) (x:Int):jt G.real TE.real n l x=some (cnB n l x):=by
 have h2:=sP n l x
 unfold jt
 simp only[az,Gp ht l hl,af,bT,bY]
 have hc:aq 0 ((uM n l x).length:Int)=(uM n l x).length:=by unfold aq;omega
 rw[ag (by omega),hc,show(0:Int)=((0:Nat):Int) from rfl,vd ht _ (by omega) _ 0 [] (by omega) (by simp),af]
 rfl
def z0S:Scan:=⟨0,0,0,.empty,⟨0,0⟩⟩
def opS:Option Scan→Scan×Bool
 |some s=>(s,true)
 |none=>(z0S,false)
def laB (n:Network) (l:List Scan) (x at_:Int):Scan×Bool:=opS ((cnB n l x).reverse.find? fun s=>decide (s.At≤at_))
def nxB (n:Network) (l:List Scan) (x at_:Int):Scan×Bool:=opS ((cnB n l x).find? fun s=>decide (at_<s.At))
theorem Cd (a:Int) (l:List Scan) (hl:l.length≤1048576):∀(k f:Nat),k≤l.length→k<f→bL G.real TE.real a l f ((k:Int)-1)=some (match (l.take k).reverse.find? fun s=>decide (s.At≤a) with|some s=>.ret (s,true)|none=>.out ())
 |0,f+1,_,_=>by rw[bL,iI,am,if_neg (by omega)];rfl
 |k+1,f+1,h,hf=>by
  have hk:k<l.length:=by omega
  have hg:=List.getElem?_eq_getElem hk
  rw[bL]
  simp only[iI,aQ,bT,k8,eB,am]
  rw[if_pos (by omega),show((k+1:Nat):Int)-1=(k:Int) by omega,ag (by omega),Int.toNat_natCast,ar hg,w64 (by omega) (by omega),Cd a l hl k f (by omega) (by omega)]
  rw[List.take_add_one,hg,Option.toList_some,List.reverse_append,List.reverse_singleton,List.singleton_append,List.find?_cons]
  by_cases hc:l[k].At≤a
  ·rw[if_pos hc,ag (by omega),decide_eq_true hc]
  ·rw[if_neg hc,decide_eq_false hc]
theorem DF (a:Int) (l:List Scan):∀(f:Nat) (v:Int),dt G.real TE.real a l f v=bL G.real TE.real a l f v
 |0,v=>by rw[dt,bL]
 |f+1,v=>by rw[dt,bL];simp only[DF a l f]
theorem Gw {n:Network} (ht:n.tot≤1048576) (l:List Scan) (hl:l.length≤1048576) (x a:Int):im G.real TE.real n l x a=some (laB n l x a):=by
 have h2:=zo n l x
 unfold im
 rw[Ee ht l hl,af]
 simp only[bT,bY,k8]
 rw[w64 (by omega) (by omega),Cd a _ (by omega) _ _ (Nat.le_refl _) (by omega),List.take_length,af]
 unfold laB
 cases (cnB n l x).reverse.find? fun s=>decide (s.At≤a)<;>rfl
theorem HC {n:Network} (ht:n.tot≤1048576) (l:List Scan) (hl:l.length≤1048576) (x a:Int):ip G.real TE.real n l x a=some (laB n l x a):=by
 rw[←Gw ht l hl x a]
 unfold ip im
 rw[Ee ht l hl,Ia ht l hl,af,af]
 simp only[DF]
theorem Db (a:Int) (l:List Scan) (hl:l.length≤1048576):∀(m k:Nat),k+m=l.length→bM G.real TE.real a l m (k:Int)=some (match (l.drop k).find? fun s=>decide (a<s.At) with|some s=>.ret (s,true)|none=>.out ())
 |0,k,h=>by rw[bM,List.drop_of_length_le (by omega)];rfl
 |m+1,k,h=>by
  have hk:k<l.length:=by omega
  rw[bM]
  simp only[aQ,Int.toNat_natCast,bc,bB,eB,am]
  rw[ar (List.getElem?_eq_getElem hk),w64 (by omega) (by omega),show(k:Int)+1=((k+1:Nat):Int) from by omega,Db a l hl m (k+1) (by omega),List.drop_eq_getElem_cons hk,List.find?_cons]
  by_cases hc:a<l[k].At
  ·rw[if_pos hc,decide_eq_true hc]
  ·rw[if_neg hc,decide_eq_false hc]
theorem BM (a:Int) (l:List Scan):∀(f:Nat) (v:Int),dA G.real TE.real a l f v=bM G.real TE.real a l f v
 |0,v=>by rw[dA,bM]
 |f+1,v=>by rw[dA,bM];simp only[BM a l f]
theorem G7 {n:Network} (ht:n.tot≤1048576) (l:List Scan) (hl:l.length≤1048576) (x a:Int):hL G.real TE.real n l x a=some (nxB n l x a):=by
 have h2:=zo n l x
 unfold hL
 rw[Ee ht l hl,af]
 simp only[bT,bY]
 have hc:aq 0 ((cnB n l x).length:Int)=(cnB n l x).length:=by unfold aq;omega
 rw[ag (by omega),hc,show(0:Int)=((0:Nat):Int) from rfl,Db a _ (by omega) _ _ (by omega),af,List.drop_zero]
 unfold nxB
 cases (cnB n l x).find? fun s=>decide (a<s.At)<;>rfl
theorem Hg {n:Network} (ht:n.tot≤1048576) (l:List Scan) (hl:l.length≤1048576) (x a:Int):hR G.real TE.real n l x a=some (nxB n l x a):=by
 rw[←G7 ht l hl x a]
 unfold hR hL
 rw[Ee ht l hl,Ia ht l hl,af,af]
 simp only[BM]
end Go.Vs
namespace Go.Vs
open Go.IntWalk
end Go.Vs
