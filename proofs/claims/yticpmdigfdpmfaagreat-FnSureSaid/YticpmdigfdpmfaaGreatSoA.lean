/- Part of the proofs of this seat's laws: SoA. No condition. -/
import Derived.Test.YticpmdigfdpmfaaGreatLac
import Derived.Test.YticpmdigfdpmfaaGreatWays
import Derived.Test.YticpmdigfdpmfaaGreatLad
set_option linter.unusedVariables false
set_option linter.unusedSimpArgs false
set_option linter.unusedSectionVars false
namespace Go.Vs
open Go.IntWalk
theorem Dj (a b:Scan):G.real.all [decide (a.Thing=b.Thing),decide (a.At=b.At),decide (a.Kind=b.Kind),decide (a.Place=b.Place),decide (a.Trip.Leg=b.Trip.Leg),decide (a.Trip.Day=b.Trip.Day)]=decide (cmS a b=0):=by
 have h:(cmS a b=0)↔(a.Thing=b.Thing∧a.At=b.At∧a.Kind=b.Kind∧a.Place=b.Place∧a.Trip.Leg=b.Trip.Leg∧a.Trip.Day=b.Trip.Day):=by
  constructor
  ·intro e
   have:=n7 e
   subst this
   exact⟨rfl,rfl,rfl,rfl,rfl,rfl⟩
  ·rintro⟨h1,h2,h3,h4,h5,h6⟩
   have:a=b:=by
    cases a with
    |mk t1 a1 k1 p1 tr1=>cases b with
     |mk t2 a2 k2 p2 tr2=>cases tr1;cases tr2;simp_all
   subst this
   exact wB a
 rw[wg]
 simp only[List.all_cons,List.all_nil,id,Bool.and_true,←Bool.decide_and]
 exact decide_eq_decide.2 h.symm
theorem fi (z:Scan):Scan.mk z.Thing z.At z.Kind z.Place (Trip.mk z.Trip.Leg z.Trip.Day)=z:=rfl
theorem xR {n:Network} (ht:n.tot≤1048576):∀(l w:List Scan),w.length+l.length≤4194304→bN G.real TE.real n l w=some (w++l.filter (scB n))
 |[],w,_=>by rw[bN];simp
 |z::l,w,h=>by
  simp only[List.length_cons] at h
  rw[bN]
  simp only[fi,A9 ht,ae,aN]
  cases hb:scB n z with
  |true=>
   rw[bS,ag (by simp;omega),xR ht l _ (by simp;omega),List.filter_cons_of_pos hb];simp
  |false=>
   rw[lO,xR ht l _ (by omega),List.filter_cons_of_neg (by simp[hb])]
def ddG (l:List Scan) (k:Nat):List Scan:=ddF (if k=0 then none else l[k-1]?) (l.drop k)
theorem uQ (l:List Scan) (hl:l.length≤4194304):∀(m k:Nat) (w:List Scan),k+m=l.length→w.length≤k→bw G.real TE.real l m (k:Int) w=some (w++ddG l k)
 |0,k,w,h,_=>by
  rw[bw,ddG,List.drop_of_length_le (by omega)]
  cases (if k=0 then none else l[k-1]?)<;>simp[ddF]
 |m+1,k,w,h,hw=>by
  have hk:k<l.length:=by omega
  have hg:=List.getElem?_eq_getElem hk
  rw[bw]
  simp only[dG,bo,Int.toNat_natCast,bh,kV,de,fE,aN,fi]
  rw[ag (by omega),ar hg,w64 (n:=(k:Int)+1) (by omega) (by omega),show(k:Int)+1=((k+1:Nat):Int) from by omega]
  rw[ddG,List.drop_eq_getElem_cons hk]
  have e1:ddF (some l[k]) (l.drop (k+1))=ddG l (k+1):=by
   rw[ddG,if_neg (by omega),show k+1-1=k from rfl,hg]
  by_cases h0:k=0
  ·rw[al,if_pos (by omega),ag (by simp;omega),uQ l hl m (k+1) _ (by omega) (by simp;omega),if_pos h0,ddF,e1]
   simp
  ·have hp:l[k-1]?=some (l[k-1]'(by omega)):=List.getElem?_eq_getElem (by omega)
   rw[al,if_neg (by omega),w64 (by omega) (by omega),ag (by omega),show((k:Int)-1).toNat=k-1 from by omega,ar hp,Dj,al,if_neg h0,hp,ddF]
   by_cases hc:cmS (l[k-1]'(by omega)) l[k]=0
   ·rw[if_pos hc,if_pos hc,uQ l hl m (k+1) _ (by omega) (by omega),e1]
   ·rw[if_neg hc,if_neg hc,ag (by simp;omega),uQ l hl m (k+1) _ (by omega) (by simp;omega),e1]
    simp
def okS (n:Network) (l:List Scan):List Scan:=(l.take 200).filter (scB n)
theorem yN (n:Network) (l:List Scan):(okS n l).length≤200:=by
 unfold okS
 have:=List.length_filter_le (scB n) (l.take 200)
 simp at this ⊢
 omega
def soB (n:Network) (l:List Scan):List Scan:=AT (okS n l)
theorem zp (n:Network) (l:List Scan):(soB n l).length≤200:=Nat.le_trans (BL _) (yN n l)
theorem so_i {n:Network} (ht:n.tot≤1048576) (l:List Scan) (hl:l.length≤1048576):hC G.real TE.real n l=some (soB n l):=by
 have h2:=yN n l
 unfold hC om
 have hm:G.real.imin (l.length:Int) 200=((min l.length 200:Nat):Int):=by
  show min (l.length:Int) 200=_
  omega
 simp only[tx,xB,hm,bo,Int.toNat_natCast,Int.toNat_zero,List.drop_zero,aN,dG,eo]
 have ht2:l.take (min l.length 200)=l.take 200:=by
  rw[Nat.min_comm,←List.take_eq_take_min]
 rw[ag (by omega),ht2,xR ht _ _ (by simp;omega),ae,List.nil_append,show(l.take 200).filter (scB n)=okS n l from rfl,ag (by omega),ae,ag (by omega)]
 have hc:aA 0 ((okS n l).length:Int)=(okS n l).length:=by unfold aA;omega
 have hlm:((okS n l).mergeSort leS).length=(okS n l).length:=List.length_mergeSort _
 rw[hc,show(0:Int)=((0:Nat):Int) from rfl,uQ _ (by omega) _ 0 [] (by omega) (by simp),ae]
 simp[ddG,soB,AT]
def sofB (n:Network) (l:List Scan) (x:Int):List Scan:=(soB n l).filter fun s=>decide (s.Thing=x)
theorem sn (n:Network) (l:List Scan) (x:Int):(sofB n l x).length≤200:=Nat.le_trans (List.length_filter_le _ _) (zp n l)
theorem xT (x:Int) (l:List Scan) (hl:l.length≤4194304):∀(m k:Nat) (w:List Scan),k+m=l.length→w.length≤k→cJ G.real TE.real x l m (k:Int) w=some (w++(l.drop k).filter fun s=>decide (s.Thing=x))
 |0,k,w,h,_=>by rw[cJ,List.drop_of_length_le (by omega)];simp
 |m+1,k,w,h,hw=>by
  have hk:k<l.length:=by omega
  rw[cJ]
  simp only[bo,Int.toNat_natCast,bh,de,aN,fi,al]
  rw[ar (List.getElem?_eq_getElem hk),w64 (by omega) (by omega),show(k:Int)+1=((k+1:Nat):Int) from by omega,List.drop_eq_getElem_cons hk]
  by_cases hc:l[k].Thing=x
  ·rw[if_pos hc,ag (by simp;omega),xT x l hl m (k+1) _ (by omega) (by simp;omega),List.filter_cons_of_pos (by simp[hc])];simp
  ·rw[if_neg hc,xT x l hl m (k+1) _ (by omega) (by omega),List.filter_cons_of_neg (by simp[hc])]
theorem C9 {n:Network} (ht:n.tot≤1048576) (l:List Scan) (hl:l.length≤1048576) (x:Int):gN G.real TE.real n l x=some (sofB n l x):=by
 have h2:=zp n l
 unfold gN
 simp only[aN,so_i ht l hl,ae,dG,eo]
 have hc:aA 0 ((soB n l).length:Int)=(soB n l).length:=by unfold aA;omega
 rw[ag (by omega),hc,show(0:Int)=((0:Nat):Int) from rfl,xT x _ (by omega) _ 0 [] (by omega) (by simp),ae]
 simp[sofB]
end Go.Vs
namespace Go.Vs
open Go.IntWalk
def clF (n:Network):Scan→Nat→List Scan→List Int
 |_,_,[]=>[]
 |p,k,x::l=>if cfB n p x=true then clF n x (k+1) l else(k:Int)::clF n x (k+1) l
def HM (n:Network):List Scan→List Int
 |[]=>[]
 |x::l=>clF n x 1 l
def clsB (n:Network) (l:List Scan) (x:Int):List Int:=HM n (sofB n l x)
theorem xN {n:Network} (ht:n.tot≤1048576) (l:List Scan) (hl:l.length≤1048576):∀(m k:Nat) (w:List Int),k+1+m=l.length→w.length≤k→∀p,l[k]?=some p→cu G.real TE.real n l m ((k+1:Nat):Int) w=some (w++clF n p (k+1) (l.drop (k+1)))
 |0,k,w,h,_,p,hp=>by rw[cu,List.drop_of_length_le (by omega),clF];simp
 |m+1,k,w,h,hw,p,hp=>by
  have hk:k+1<l.length:=by omega
  have hg:=List.getElem?_eq_getElem hk
  rw[cu]
  simp only[bo,Int.toNat_natCast,bh,kV,aN,fi,dG]
  rw[w64 (n:=((k+1:Nat):Int)-1) (by omega) (by omega),ag (by omega),show(((k+1:Nat):Int)-1).toNat=k from by omega,ar hp,ar hg,GW ht (dj ht),ae,w64 (by omega) (by omega),show((k+1:Nat):Int)+1=((k+1+1:Nat):Int) from by omega,List.drop_eq_getElem_cons hk,clF]
  cases hc:cfB n p l[k+1] with
  |true=>rw[bS,if_pos rfl,xN ht l hl m (k+1) w (by omega) (by omega) _ hg]
  |false=>
   rw[lO,if_neg (by simp),ag (by simp;omega),xN ht l hl m (k+1) _ (by omega) (by simp;omega) _ hg];simp
theorem G2 {n:Network} (ht:n.tot≤1048576) (l:List Scan) (hl:l.length≤1048576) (x:Int):jH G.real TE.real n l x=some (clsB n l x):=by
 have h2:=sn n l x
 unfold jH clsB
 simp only[aN,C9 ht l hl,ae,dG,eo]
 rw[ag (by omega)]
 cases hs:sofB n l x with
 |nil=>rw[show aA 1 (([]:List Scan).length:Int)=0 from rfl,cu];rfl
 |cons y m=>
  rw[hs] at h2
  have hc:aA 1 ((y::m).length:Int)=m.length:=by unfold aA;simp only[List.length_cons];omega
  rw[hc,show(1:Int)=((0+1:Nat):Int) from rfl,xN ht (y::m) (by omega) m.length 0 [] (by simp;omega) (by simp) y rfl,ae]
  rfl
def cnG (n:Network):Option Scan→List Scan→List Scan
 |_,[]=>[]
 |none,x::l=>x::cnG n (some x) l
 |some p,x::l=>if cfB n p x=true then x::cnG n (some x) l else cnG n (some p) l
def cnB (n:Network) (l:List Scan) (x:Int):List Scan:=cnG n none (sofB n l x)
theorem nW (n:Network):∀(l:List Scan) (p:Option Scan),(cnG n p l).Sublist l
 |[],p=>by cases p<;>exact List.Sublist.refl _
 |x::l,none=>by rw[cnG];exact(nW n l (some x)).cons_cons x
 |x::l,some p=>by
  rw[cnG];split
  ·exact(nW n l (some x)).cons_cons x
  ·exact(nW n l (some p)).cons x
theorem zi (n:Network) (l:List Scan) (x:Int):(cnB n l x).length≤200:=Nat.le_trans (nW n _ _).length_le (sn n l x)
theorem AQ (w:List Scan) (z:Scan):(w++[z]).getLast? =some z:=by simp
theorem uD {n:Network} (ht:n.tot≤1048576) (l:List Scan) (hl:l.length≤1048576):∀(m k:Nat) (w:List Scan),k+m=l.length→w.length≤k→cj G.real TE.real n l m (k:Int) w=some (w++cnG n w.getLast? (l.drop k))
 |0,k,w,h,_=>by rw[cj,List.drop_of_length_le (by omega)];cases w.getLast? <;>simp[cnG]
 |m+1,k,w,h,hw=>by
  have hk:k<l.length:=by omega
  rw[cj]
  simp only[bo,Int.toNat_natCast,bh,kV,de,eo,aN,fi,dG]
  rw[ar (List.getElem?_eq_getElem hk),w64 (n:=(k:Int)+1) (by omega) (by omega),show(k:Int)+1=((k+1:Nat):Int) from by omega,List.drop_eq_getElem_cons hk]
  by_cases h0:w=[]
  ·subst h0
   rw[show decide ((([]:List Scan).length:Int)=0)=true from rfl,bS,ag (by simp),uD ht l hl m (k+1) _ (by omega) (by simp),show([]:List Scan).getLast? =none from rfl,show cnG n none (l[k]::l.drop (k+1))=l[k]::cnG n (some l[k]) (l.drop (k+1)) from rfl]
   simp
  ·have hwl:0<w.length:=List.length_pos_iff.2 h0
   have hp:w[w.length-1]?=some (w[w.length-1]'(by omega)):=List.getElem?_eq_getElem (by omega)
   have hlast:w.getLast? =some (w[w.length-1]'(by omega)):=by rw[List.getLast?_eq_getElem?,hp]
   rw[al,if_neg (by omega),w64 (by omega) (by omega),ag (by omega),show((w.length:Int)-1).toNat=w.length-1 from by omega,ar hp,GW ht (dj ht),ae,hlast,cnG]
   cases hc:cfB n (w[w.length-1]'(by omega)) l[k] with
   |true=>
    rw[bS,if_pos rfl,ag (by simp;omega),uD ht l hl m (k+1) _ (by omega) (by simp;omega),AQ];simp
   |false=>rw[lO,if_neg (by simp),uD ht l hl m (k+1) _ (by omega) (by omega),hlast]
theorem FU {n:Network} (ht:n.tot≤1048576) (l:List Scan) (hl:l.length≤1048576) (x:Int):gC G.real TE.real n l x=some (cnB n l x):=by
 have h2:=sn n l x
 unfold gC
 simp only[aN,C9 ht l hl,ae,dG,eo]
 have hc:aA 0 ((sofB n l x).length:Int)=(sofB n l x).length:=by unfold aA;omega
 rw[ag (by omega),hc,show(0:Int)=((0:Nat):Int) from rfl,uD ht _ (by omega) _ 0 [] (by omega) (by simp),ae]
 rfl
def z0S:Scan:=⟨0,0,0,.empty,⟨0,0⟩⟩
def opS:Option Scan→Scan×Bool
 |some s=>(s,true)
 |none=>(z0S,false)
def laB (n:Network) (l:List Scan) (x at_:Int):Scan×Bool:=opS ((cnB n l x).reverse.find? fun s=>decide (s.At≤at_))
def nxB (n:Network) (l:List Scan) (x at_:Int):Scan×Bool:=opS ((cnB n l x).find? fun s=>decide (at_<s.At))
theorem Ds (a:Int) (l:List Scan) (hl:l.length≤1048576):∀(k f:Nat),k≤l.length→k<f→cO G.real TE.real a l f ((k:Int)-1)=some (match (l.take k).reverse.find? fun s=>decide (s.At≤a) with|some s=>.ret (s,true)|none=>.out ())
 |0,f+1,_,_=>by rw[cO,jz,al,if_neg (by omega)];rfl
 |k+1,f+1,h,hf=>by
  have hk:k<l.length:=by omega
  have hg:=List.getElem?_eq_getElem hk
  rw[cO]
  simp only[jz,bo,dG,kV,fi,al]
  rw[if_pos (by omega),show((k+1:Nat):Int)-1=(k:Int) by omega,ag (by omega),Int.toNat_natCast,ar hg,w64 (by omega) (by omega),Ds a l hl k f (by omega) (by omega)]
  rw[List.take_add_one,hg,Option.toList_some,List.reverse_append,List.reverse_singleton,List.singleton_append,List.find?_cons]
  by_cases hc:l[k].At≤a
  ·rw[if_pos hc,ag (by omega),decide_eq_true hc]
  ·rw[if_neg hc,decide_eq_false hc]
theorem la_i {n:Network} (ht:n.tot≤1048576) (l:List Scan) (hl:l.length≤1048576) (x a:Int):iI G.real TE.real n l x a=some (laB n l x a):=by
 have h2:=zi n l x
 unfold iI
 rw[FU ht l hl,ae]
 simp only[dG,eo,kV]
 rw[w64 (by omega) (by omega),Ds a _ (by omega) _ _ (Nat.le_refl _) (by omega),List.take_length,ae]
 unfold laB
 cases (cnB n l x).reverse.find? fun s=>decide (s.At≤a)<;>rfl
theorem CU (a:Int) (l:List Scan) (hl:l.length≤1048576):∀(m k:Nat),k+m=l.length→cQ G.real TE.real a l m (k:Int)=some (match (l.drop k).find? fun s=>decide (a<s.At) with|some s=>.ret (s,true)|none=>.out ())
 |0,k,h=>by rw[cQ,List.drop_of_length_le (by omega)];rfl
 |m+1,k,h=>by
  have hk:k<l.length:=by omega
  rw[cQ]
  simp only[bo,Int.toNat_natCast,bh,dc,fi,al]
  rw[ar (List.getElem?_eq_getElem hk),w64 (by omega) (by omega),show(k:Int)+1=((k+1:Nat):Int) from by omega,CU a l hl m (k+1) (by omega),List.drop_eq_getElem_cons hk,List.find?_cons]
  by_cases hc:a<l[k].At
  ·rw[if_pos hc,decide_eq_true hc]
  ·rw[if_neg hc,decide_eq_false hc]
theorem nx_i {n:Network} (ht:n.tot≤1048576) (l:List Scan) (hl:l.length≤1048576) (x a:Int):iF G.real TE.real n l x a=some (nxB n l x a):=by
 have h2:=zi n l x
 unfold iF
 rw[FU ht l hl,ae]
 simp only[dG,eo]
 have hc:aA 0 ((cnB n l x).length:Int)=(cnB n l x).length:=by unfold aA;omega
 rw[ag (by omega),hc,show(0:Int)=((0:Nat):Int) from rfl,CU a _ (by omega) _ _ (by omega),ae,List.drop_zero]
 unfold nxB
 cases (cnB n l x).find? fun s=>decide (a<s.At)<;>rfl
end Go.Vs
namespace Go.Vs
open Go.IntWalk
theorem qd:∀(l:List Scan) (p:Option Scan),(ddF p l).Sublist l
 |[],p=>by cases p<;>exact List.Sublist.refl _
 |x::l,none=>by rw[ddF];exact(qd l (some x)).cons_cons x
 |x::l,some p=>by
  rw[ddF];split
  ·exact(qd l (some x)).cons x
  ·exact(qd l (some x)).cons_cons x
end Go.Vs
