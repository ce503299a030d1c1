/- Part of the proofs of this seat's laws: SoA. No condition. -/
import Derived.Test.YtolplompnmammaaGreatDoorLac
import Derived.Test.YtolplompnmammaaGreatDoorWays
import Derived.Test.YtolplompnmammaaGreatDoorLab
import Derived.Test.YtolplompnmammaaGreatDoorLad
set_option linter.unusedVariables false
set_option linter.unusedSimpArgs false
set_option linter.unusedSectionVars false
namespace Go.Vs
open Go.IntWalk
theorem wq (a b:Scan):G.real.all [decide (a.Thing=b.Thing),decide (a.At=b.At),decide (a.Kind=b.Kind),decide (a.Place=b.Place),decide (a.Trip.Leg=b.Trip.Leg),decide (a.Trip.Day=b.Trip.Day)]=decide (cmS a b=0):=by
 have h:(cmS a b=0)↔(a.Thing=b.Thing∧a.At=b.At∧a.Kind=b.Kind∧a.Place=b.Place∧a.Trip.Leg=b.Trip.Leg∧a.Trip.Day=b.Trip.Day):=by
  constructor
  ·intro e
   have:=lu e
   subst this
   exact⟨rfl,rfl,rfl,rfl,rfl,rfl⟩
  ·rintro⟨h1,h2,h3,h4,h5,h6⟩
   have:a=b:=by
    cases a with
    |mk t1 a1 k1 p1 tr1=>cases b with
     |mk t2 a2 k2 p2 tr2=>cases tr1;cases tr2;simp_all
   subst this
   exact wx a
 rw[vJ]
 simp only[List.all_cons,List.all_nil,id,Bool.and_true,←Bool.decide_and]
 exact decide_eq_decide.2 h.symm
theorem f5 (z:Scan):Scan.mk z.Thing z.At z.Kind z.Place (Trip.mk z.Trip.Leg z.Trip.Day)=z:=rfl
theorem w9 {n:Network} (ht:n.tot≤1048576):∀(l w:List Scan),w.length+l.length≤4194304→bZ G.real TE.real n l w=some (w++l.filter (scB n))
 |[],w,_=>by rw[bZ];simp
 |z::l,w,h=>by
  simp only[List.length_cons] at h
  rw[bZ]
  simp only[f5,zn ht,ag,bd]
  cases hb:scB n z with
  |true=>
   rw[cP,ak (by simp;omega),w9 ht l _ (by simp;omega),List.filter_cons_of_pos hb];simp
  |false=>
   rw[jX,w9 ht l _ (by omega),List.filter_cons_of_neg (by simp[hb])]
def ddG (l:List Scan) (k:Nat):List Scan:=ddF (if k=0 then none else l[k-1]?) (l.drop k)
theorem tO (l:List Scan) (hl:l.length≤4194304):∀(m k:Nat) (w:List Scan),k+m=l.length→w.length≤k→bH G.real TE.real l m (k:Int) w=some (w++ddG l k)
 |0,k,w,h,_=>by
  rw[bH,ddG,List.drop_of_length_le (by omega)]
  cases (if k=0 then none else l[k-1]?)<;>simp[ddF]
 |m+1,k,w,h,hw=>by
  have hk:k<l.length:=by omega
  have hg:=List.getElem?_eq_getElem hk
  rw[bH]
  simp only[cM,bS,Int.toNat_natCast,bB,lT,eu,fk,bd,f5]
  rw[ak (by omega),aw hg,w64 (n:=(k:Int)+1) (by omega) (by omega),show(k:Int)+1=((k+1:Nat):Int) from by omega]
  rw[ddG,List.drop_eq_getElem_cons hk]
  have e1:ddF (some l[k]) (l.drop (k+1))=ddG l (k+1):=by
   rw[ddG,if_neg (by omega),show k+1-1=k from rfl,hg]
  by_cases h0:k=0
  ·rw[ao,if_pos (by omega),ak (by simp;omega),tO l hl m (k+1) _ (by omega) (by simp;omega),if_pos h0,ddF,e1]
   simp
  ·have hp:l[k-1]?=some (l[k-1]'(by omega)):=List.getElem?_eq_getElem (by omega)
   rw[ao,if_neg (by omega),w64 (by omega) (by omega),ak (by omega),show((k:Int)-1).toNat=k-1 from by omega,aw hp,wq,ao,if_neg h0,hp,ddF]
   by_cases hc:cmS (l[k-1]'(by omega)) l[k]=0
   ·rw[if_pos hc,if_pos hc,tO l hl m (k+1) _ (by omega) (by omega),e1]
   ·rw[if_neg hc,if_neg hc,ak (by simp;omega),tO l hl m (k+1) _ (by omega) (by simp;omega),e1]
    simp
def okS (n:Network) (l:List Scan):List Scan:=(l.take 200).filter (scB n)
theorem yR (n:Network) (l:List Scan):(okS n l).length≤200:=by
 unfold okS
 have:=List.length_filter_le (scB n) (l.take 200)
 simp at this ⊢
 omega
def soB (n:Network) (l:List Scan):List Scan:=xn (okS n l)
theorem yQ (n:Network) (l:List Scan):(soB n l).length≤200:=Nat.le_trans (Cf _) (yR n l)
theorem E5 {n:Network} (ht:n.tot≤1048576) (l:List Scan) (hl:l.length≤1048576):gN G.real TE.real n l=some (soB n l):=by
 have h2:=yR n l
 unfold gN nH
 have hm:G.real.imin (l.length:Int) 200=((min l.length 200:Nat):Int):=by
  show min (l.length:Int) 200=_
  omega
 simp only[zr,xh,hm,bS,Int.toNat_natCast,Int.toNat_zero,List.drop_zero,bd,cM,eG]
 have ht2:l.take (min l.length 200)=l.take 200:=by
  rw[Nat.min_comm,←List.take_eq_take_min]
 rw[ak (by omega),ht2,w9 ht _ _ (by simp;omega),ag,List.nil_append,show(l.take 200).filter (scB n)=okS n l from rfl,ak (by omega),ag,ak (by omega)]
 have hc:ap 0 ((okS n l).length:Int)=(okS n l).length:=by unfold ap;omega
 have hlm:((okS n l).mergeSort leS).length=(okS n l).length:=List.length_mergeSort _
 rw[hc,show(0:Int)=((0:Nat):Int) from rfl,tO _ (by omega) _ 0 [] (by omega) (by simp),ag]
 simp[ddG,soB,xn]
def gp (x:Scan):List Scan→Nat
 |[]=>0
 |y::l=>if cmS y x<0 then gp x l+1 else 0
theorem yK (x:Scan):∀l,gp x l≤l.length
 |[]=>by simp[gp]
 |y::l=>by
  have:=yK x l
  unfold gp
  split<;>simp<;>omega
theorem vV (x:Scan):∀{l:List Scan},gp x l=l.length→iC x l=l++[x]
 |[],_=>rfl
 |y::l,h=>by
  unfold gp at h
  split at h
  ·rw[iC,if_pos ‹_›,vV x (by simpa using h)];rfl
  ·simp at h
theorem tp (x:Scan):∀{l:List Scan} {y:Scan},l[gp x l]?=some y→cmS y x=0→iC x l=l
 |[],_,h,_=>by simp at h
 |z::l,y,h,e=>by
  unfold gp at h
  split at h
  ·rw[iC,if_pos ‹_›,tp x (by simpa using h) e]
  ·simp at h
   subst h
   rw[iC,if_neg ‹_›,if_pos e]
theorem vZ (x:Scan):∀{l:List Scan} {y:Scan},l[gp x l]?=some y→cmS y x≠0→iC x l=l.take (gp x l)++x::l.drop (gp x l)
 |[],_,h,_=>by simp at h
 |z::l,y,h,e=>by
  unfold gp at h ⊢
  split at h
  ·rename_i c
   rw[iC,if_pos c,if_pos c,vZ x (by simpa using h) e];simp
  ·rename_i c
   simp at h
   subst h
   rw[iC,if_neg c,if_neg e,if_neg c];simp
theorem AP (w:List Scan) (x:Scan) (hw:w.length≤4194304):∀(n k:Nat),k+n=w.length→cf G.real TE.real w x n (k:Int)=some ((k+gp x (w.drop k):Nat):Int)
 |0,k,h=>by rw[cf,List.drop_of_length_le (by omega)];rfl
 |n+1,k,h=>by
  have hk:k<w.length:=by omega
  rw[cf]
  simp only[bS,Int.toNat_natCast,bB,eh,f5,cm_s,ag,ao]
  rw[aw (List.getElem?_eq_getElem hk),w64 (by omega) (by omega),show(k:Int)+1=((k+1:Nat):Int) from by omega,AP w x hw n (k+1) (by omega),List.drop_eq_getElem_cons hk,gp]
  split
  ·congr 2;omega
  ·rfl
theorem w7 {n:Network} (ht:n.tot≤1048576):∀(l:List Scan) (v:Nat) (w:List Scan),v+l.length≤4194304→w.length≤v→bn G.real TE.real n l (v:Int) w=some (((l.take (200-v)).filter (scB n)).foldl (fun o x=>iC x o) w)
 |[],v,w,_,_=>by rw[bn];simp
 |z::l,v,w,h,hw=>by
  simp only[List.length_cons] at h
  rw[bn]
  simp only[eh,ao]
  by_cases hv:v<200
  ·rw[if_pos (by omega)]
   simp only[f5,sc_s ht,ag,bB]
   have e2:(z::l).take (200-v)=z::l.take (200-(v+1)):=by
    rw[show 200-v=200-(v+1)+1 by omega,List.take_succ_cons]
   rw[e2,w64 (n:=(v:Int)+1) (by omega) (by omega),show(v:Int)+1=((v+1:Nat):Int) from by omega]
   cases hb:scB n z with
   |false=>
    rw[jX,w7 ht l (v+1) w (by omega) (by omega),List.filter_cons_of_neg (by simp[hb])]
   |true=>
    rw[cP,List.filter_cons_of_pos hb,List.foldl_cons]
    have ih:=w7 ht l (v+1) (iC z w) (by omega) (by have:=vm z w;omega)
    rw[←ih]
    have cn:ap 0 (w.length:Int)=w.length:=by unfold ap;omega
    have hl2:cf G.real TE.real w z w.length 0=some ((gp z w:Nat):Int):=by simpa using AP w z (by omega) w.length 0 (by omega)
    have hle:=yK z w
    simp only[cM,eG,bS,xJ,bd,eu,fk]
    rw[ak (by omega),cn,hl2,ag,ao]
    have hv2:[]++(List.take (Int.toNat ((gp z w:Nat):Int)-Int.toNat 0) (List.drop (Int.toNat 0) w))++[z]++(List.take (Int.toNat (w.length:Int)-Int.toNat ((gp z w:Nat):Int)) (List.drop (Int.toNat ((gp z w:Nat):Int)) w))=w.take (gp z w)++z::w.drop (gp z w):=by
     simp only[Int.toNat_natCast,Int.toNat_zero,Nat.sub_zero,List.drop_zero,List.nil_append]
     rw[List.take_of_length_le (l:=List.drop (gp z w) w) (by simp)]
     simp
    by_cases hc:gp z w=w.length
    ·rw[if_pos (by omega)]
     repeat rw[ak (by simp;omega)]
     rw[hv2,vV z hc,hc];simp
    ·have hx:w[Int.toNat ((gp z w:Nat):Int)]?=some (w[gp z w]'(by omega)):=by
      rw[Int.toNat_natCast];exact List.getElem?_eq_getElem (by omega)
     have hx2:w[gp z w]?=some (w[gp z w]'(by omega)):=List.getElem?_eq_getElem (by omega)
     rw[if_neg (by omega),ak (by omega),aw hx,wq,ao]
     by_cases he:cmS (w[gp z w]'(by omega)) z=0
     ·rw[if_pos he,tp z hx2 he]
     ·rw[if_neg he]
      repeat rw[ak (by simp;omega)]
      rw[hv2,vZ z hx2 he]
  ·rw[if_neg (by omega),show 200-v=0 by omega];simp
theorem so_s {n:Network} (ht:n.tot≤1048576) (l:List Scan) (hl:l.length≤1048576):gP G.real TE.real n l=some (soB n l):=by
 unfold gP
 have h:=w7 ht l 0 [] (by omega) (by simp)
 rw[bd,show(0:Int)=((0:Nat):Int) from rfl,h,ag]
 exact congrArg some (zN _)
def uD (n:Network) (l:List Scan) (x:Int):List Scan:=(soB n l).filter fun s=>decide (s.Thing=x)
theorem vE (n:Network) (l:List Scan) (x:Int):(uD n l x).length≤200:=Nat.le_trans (List.length_filter_le _ _) (yQ n l)
theorem xC (x:Int) (l:List Scan) (hl:l.length≤4194304):∀(m k:Nat) (w:List Scan),k+m=l.length→w.length≤k→bK G.real TE.real x l m (k:Int) w=some (w++(l.drop k).filter fun s=>decide (s.Thing=x))
 |0,k,w,h,_=>by rw[bK,List.drop_of_length_le (by omega)];simp
 |m+1,k,w,h,hw=>by
  have hk:k<l.length:=by omega
  rw[bK]
  simp only[bS,Int.toNat_natCast,bB,eu,bd,f5,ao]
  rw[aw (List.getElem?_eq_getElem hk),w64 (by omega) (by omega),show(k:Int)+1=((k+1:Nat):Int) from by omega,List.drop_eq_getElem_cons hk]
  by_cases hc:l[k].Thing=x
  ·rw[if_pos hc,ak (by simp;omega),xC x l hl m (k+1) _ (by omega) (by simp;omega),List.filter_cons_of_pos (by simp[hc])];simp
  ·rw[if_neg hc,xC x l hl m (k+1) _ (by omega) (by omega),List.filter_cons_of_neg (by simp[hc])]
theorem Bb (x:Int) (l:List Scan):∀(m:Nat) (k:Int) (w:List Scan),cR G.real TE.real x l m k w=bK G.real TE.real x l m k w
 |0,k,w=>by rw[cR,bK]
 |m+1,k,w=>by rw[cR,bK];simp only[Bb x l m]
theorem DK {n:Network} (ht:n.tot≤1048576) (l:List Scan) (hl:l.length≤1048576) (x:Int):iq G.real TE.real n l x=some (uD n l x):=by
 have h2:=yQ n l
 unfold iq
 simp only[bd,E5 ht l hl,ag,cM,eG]
 have hc:ap 0 ((soB n l).length:Int)=(soB n l).length:=by unfold ap;omega
 rw[ak (by omega),hc,show(0:Int)=((0:Nat):Int) from rfl,xC x _ (by omega) _ 0 [] (by omega) (by simp),ag]
 simp[uD]
theorem FG {n:Network} (ht:n.tot≤1048576) (l:List Scan) (hl:l.length≤1048576) (x:Int):jL G.real TE.real n l x=some (uD n l x):=by
 rw[←DK ht l hl x]
 unfold jL iq
 simp only[so_s ht l hl,E5 ht l hl,Bb]
end Go.Vs
namespace Go.Vs
open Go.IntWalk
theorem pM:∀(l:List Scan) (p:Option Scan),(ddF p l).Sublist l
 |[],p=>by cases p<;>exact List.Sublist.refl _
 |x::l,none=>by rw[ddF];exact(pM l (some x)).cons_cons x
 |x::l,some p=>by
  rw[ddF];split
  ·exact(pM l (some x)).cons x
  ·exact(pM l (some x)).cons_cons x
end Go.Vs
namespace Go.Vs
open Go.IntWalk
def cnG (n:Network):Option Scan→List Scan→List Scan
 |_,[]=>[]
 |none,x::l=>x::cnG n (some x) l
 |some p,x::l=>if cfB n p x=true then x::cnG n (some x) l else cnG n (some p) l
def cnB (n:Network) (l:List Scan) (x:Int):List Scan:=cnG n none (uD n l x)
theorem mT (n:Network):∀(l:List Scan) (p:Option Scan),(cnG n p l).Sublist l
 |[],p=>by cases p<;>exact List.Sublist.refl _
 |x::l,none=>by rw[cnG];exact(mT n l (some x)).cons_cons x
 |x::l,some p=>by
  rw[cnG];split
  ·exact(mT n l (some x)).cons_cons x
  ·exact(mT n l (some p)).cons x
theorem yM (n:Network) (l:List Scan) (x:Int):(cnB n l x).length≤200:=Nat.le_trans (mT n _ _).length_le (vE n l x)
theorem y8 (w:List Scan) (z:Scan):(w++[z]).getLast? =some z:=by simp
theorem tD {n:Network} (ht:n.tot≤1048576) (l:List Scan) (hl:l.length≤1048576):∀(m k:Nat) (w:List Scan),k+m=l.length→w.length≤k→cC G.real TE.real n l m (k:Int) w=some (w++cnG n w.getLast? (l.drop k))
 |0,k,w,h,_=>by rw[cC,List.drop_of_length_le (by omega)];cases w.getLast? <;>simp[cnG]
 |m+1,k,w,h,hw=>by
  have hk:k<l.length:=by omega
  rw[cC]
  simp only[bS,Int.toNat_natCast,bB,lT,eu,eG,bd,f5,cM]
  rw[aw (List.getElem?_eq_getElem hk),w64 (n:=(k:Int)+1) (by omega) (by omega),show(k:Int)+1=((k+1:Nat):Int) from by omega,List.drop_eq_getElem_cons hk]
  by_cases h0:w=[]
  ·subst h0
   rw[show decide ((([]:List Scan).length:Int)=0)=true from rfl,cP,ak (by simp),tD ht l hl m (k+1) _ (by omega) (by simp),show([]:List Scan).getLast? =none from rfl,show cnG n none (l[k]::l.drop (k+1))=l[k]::cnG n (some l[k]) (l.drop (k+1)) from rfl]
   simp
  ·have hwl:0<w.length:=List.length_pos_iff.2 h0
   have hp:w[w.length-1]?=some (w[w.length-1]'(by omega)):=List.getElem?_eq_getElem (by omega)
   have hlast:w.getLast? =some (w[w.length-1]'(by omega)):=by rw[List.getLast?_eq_getElem?,hp]
   rw[ao,if_neg (by omega),w64 (by omega) (by omega),ak (by omega),show((w.length:Int)-1).toNat=w.length-1 from by omega,aw hp,cf_i ht (eo ht),ag,hlast,cnG]
   cases hc:cfB n (w[w.length-1]'(by omega)) l[k] with
   |true=>
    rw[cP,if_pos rfl,ak (by simp;omega),tD ht l hl m (k+1) _ (by omega) (by simp;omega),y8];simp
   |false=>rw[jX,if_neg (by simp),tD ht l hl m (k+1) _ (by omega) (by omega),hlast]
theorem Fc {n:Network} (ht:n.tot≤1048576) (l:List Scan) (hl:l.length≤1048576) (x:Int):im G.real TE.real n l x=some (cnB n l x):=by
 have h2:=vE n l x
 unfold im
 simp only[bd,DK ht l hl,ag,cM,eG]
 have hc:ap 0 ((uD n l x).length:Int)=(uD n l x).length:=by unfold ap;omega
 rw[ak (by omega),hc,show(0:Int)=((0:Nat):Int) from rfl,tD ht _ (by omega) _ 0 [] (by omega) (by simp),ag]
 rfl
def z0S:Scan:=⟨0,0,0,.empty,⟨0,0⟩⟩
def opS:Option Scan→Scan×Bool
 |some s=>(s,true)
 |none=>(z0S,false)
def laB (n:Network) (l:List Scan) (x at_:Int):Scan×Bool:=opS ((cnB n l x).reverse.find? fun s=>decide (s.At≤at_))
def nxB (n:Network) (l:List Scan) (x at_:Int):Scan×Bool:=opS ((cnB n l x).find? fun s=>decide (at_<s.At))
theorem Cx (a:Int) (l:List Scan) (hl:l.length≤1048576):∀(k f:Nat),k≤l.length→k<f→cY G.real TE.real a l f ((k:Int)-1)=some (match (l.take k).reverse.find? fun s=>decide (s.At≤a) with|some s=>.ret (s,true)|none=>.out ())
 |0,f+1,_,_=>by rw[cY,jU,ao,if_neg (by omega)];rfl
 |k+1,f+1,h,hf=>by
  have hk:k<l.length:=by omega
  have hg:=List.getElem?_eq_getElem hk
  rw[cY]
  simp only[jU,bS,cM,lT,f5,ao]
  rw[if_pos (by omega),show((k+1:Nat):Int)-1=(k:Int) by omega,ak (by omega),Int.toNat_natCast,aw hg,w64 (by omega) (by omega),Cx a l hl k f (by omega) (by omega)]
  rw[List.take_add_one,hg,Option.toList_some,List.reverse_append,List.reverse_singleton,List.singleton_append,List.find?_cons]
  by_cases hc:l[k].At≤a
  ·rw[if_pos hc,ak (by omega),decide_eq_true hc]
  ·rw[if_neg hc,decide_eq_false hc]
theorem E2 {n:Network} (ht:n.tot≤1048576) (l:List Scan) (hl:l.length≤1048576) (x a:Int):gq G.real TE.real n l x a=some (laB n l x a):=by
 have h2:=yM n l x
 unfold gq
 rw[Fc ht l hl,ag]
 simp only[cM,eG,lT]
 rw[w64 (by omega) (by omega),Cx a _ (by omega) _ _ (Nat.le_refl _) (by omega),List.take_length,ag]
 unfold laB
 cases (cnB n l x).reverse.find? fun s=>decide (s.At≤a)<;>rfl
theorem BL (a:Int) (l:List Scan) (hl:l.length≤1048576):∀(m k:Nat),k+m=l.length→c9 G.real TE.real a l m (k:Int)=some (match (l.drop k).find? fun s=>decide (a<s.At) with|some s=>.ret (s,true)|none=>.out ())
 |0,k,h=>by rw[c9,List.drop_of_length_le (by omega)];rfl
 |m+1,k,h=>by
  have hk:k<l.length:=by omega
  rw[c9]
  simp only[bS,Int.toNat_natCast,bB,eh,f5,ao]
  rw[aw (List.getElem?_eq_getElem hk),w64 (by omega) (by omega),show(k:Int)+1=((k+1:Nat):Int) from by omega,BL a l hl m (k+1) (by omega),List.drop_eq_getElem_cons hk,List.find?_cons]
  by_cases hc:a<l[k].At
  ·rw[if_pos hc,decide_eq_true hc]
  ·rw[if_neg hc,decide_eq_false hc]
theorem nx_i {n:Network} (ht:n.tot≤1048576) (l:List Scan) (hl:l.length≤1048576) (x a:Int):iJ G.real TE.real n l x a=some (nxB n l x a):=by
 have h2:=yM n l x
 unfold iJ
 rw[Fc ht l hl,ag]
 simp only[cM,eG]
 have hc:ap 0 ((cnB n l x).length:Int)=(cnB n l x).length:=by unfold ap;omega
 rw[ak (by omega),hc,show(0:Int)=((0:Nat):Int) from rfl,BL a _ (by omega) _ _ (by omega),ag,List.drop_zero]
 unfold nxB
 cases (cnB n l x).find? fun s=>decide (a<s.At)<;>rfl
end Go.Vs
