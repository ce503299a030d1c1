/- Part of the proofs of this seat's laws: SoA. No condition. -/
import Derived.Test.YticpmdigfdpmfaaGreatLaa
import Derived.Test.YticpmdigfdpmfaaGreatWays
import Derived.Test.YticpmdigfdpmfaaGreatLad
import Derived.Test.YticpmdigfdpmfaaGreatLab
import Derived.Test.YticpmdigfdpmfaaGreatLae
set_option linter.unusedVariables false
set_option linter.unusedSimpArgs false
set_option linter.unusedSectionVars false
namespace Go.Vs
open Go.IntWalk
theorem wP (a b:Scan):G.real.all [decide (a.Thing=b.Thing),decide (a.At=b.At),decide (a.Kind=b.Kind),decide (a.Place=b.Place),decide (a.Trip.Leg=b.Trip.Leg),decide (a.Trip.Day=b.Trip.Day)]=decide (cmS a b=0):=by
 have h:(cmS a b=0)↔(a.Thing=b.Thing∧a.At=b.At∧a.Kind=b.Kind∧a.Place=b.Place∧a.Trip.Leg=b.Trip.Leg∧a.Trip.Day=b.Trip.Day):=by
  constructor
  ·intro e
   have:=lR e
   subst this
   exact⟨rfl,rfl,rfl,rfl,rfl,rfl⟩
  ·rintro⟨h1,h2,h3,h4,h5,h6⟩
   have:a=b:=by
    cases a with
    |mk t1 a1 k1 p1 tr1=>cases b with
     |mk t2 a2 k2 p2 tr2=>cases tr1;cases tr2;simp_all
   subst this
   exact xB a
 rw[tn]
 simp only[List.all_cons,List.all_nil,id,Bool.and_true,←Bool.decide_and]
 exact decide_eq_decide.2 h.symm
theorem dq (z:Scan):Scan.mk z.Thing z.At z.Kind z.Place (Trip.mk z.Trip.Leg z.Trip.Day)=z:=rfl
theorem yE {n:Network} (ht:n.tot≤1048576):∀(l w:List Scan),w.length+l.length≤4194304→bX G.real TE.real n l w=some (w++l.filter (scB n))
 |[],w,_=>by rw[bX];simp
 |z::l,w,h=>by
  simp only[List.length_cons] at h
  rw[bX]
  simp only[dq,Bp ht,ag,a9]
  cases hb:scB n z with
  |true=>
   rw[cu,aj (by simp;omega),yE ht l _ (by simp;omega),List.filter_cons_of_pos hb];simp
  |false=>
   rw[qk,yE ht l _ (by omega),List.filter_cons_of_neg (by simp[hb])]
def ddG (l:List Scan) (k:Nat):List Scan:=ddF (if k=0 then none else l[k-1]?) (l.drop k)
theorem vh (l:List Scan) (hl:l.length≤4194304):∀(m k:Nat) (w:List Scan),k+m=l.length→w.length≤k→bH G.real TE.real l m (k:Int) w=some (w++ddG l k)
 |0,k,w,h,_=>by
  rw[bH,ddG,List.drop_of_length_le (by omega)]
  cases (if k=0 then none else l[k-1]?)<;>simp[ddF]
 |m+1,k,w,h,hw=>by
  have hk:k<l.length:=by omega
  have hg:=List.getElem?_eq_getElem hk
  rw[bH]
  simp only[bC,bp,Int.toNat_natCast,bq,gq,dM,gn,a9,dq]
  rw[aj (by omega),aq hg,w64 (n:=(k:Int)+1) (by omega) (by omega),show(k:Int)+1=((k+1:Nat):Int) from by omega]
  rw[ddG,List.drop_eq_getElem_cons hk]
  have e1:ddF (some l[k]) (l.drop (k+1))=ddG l (k+1):=by
   rw[ddG,if_neg (by omega),show k+1-1=k from rfl,hg]
  by_cases h0:k=0
  ·rw[am,if_pos (by omega),aj (by simp;omega),vh l hl m (k+1) _ (by omega) (by simp;omega),if_pos h0,ddF,e1]
   simp
  ·have hp:l[k-1]?=some (l[k-1]'(by omega)):=List.getElem?_eq_getElem (by omega)
   rw[am,if_neg (by omega),w64 (by omega) (by omega),aj (by omega),show((k:Int)-1).toNat=k-1 from by omega,aq hp,wP,am,if_neg h0,hp,ddF]
   by_cases hc:cmS (l[k-1]'(by omega)) l[k]=0
   ·rw[if_pos hc,if_pos hc,vh l hl m (k+1) _ (by omega) (by omega),e1]
   ·rw[if_neg hc,if_neg hc,aj (by simp;omega),vh l hl m (k+1) _ (by omega) (by simp;omega),e1]
    simp
def okS (n:Network) (l:List Scan):List Scan:=(l.take 200).filter (scB n)
theorem z9 (n:Network) (l:List Scan):(okS n l).length≤200:=by
 unfold okS
 have:=List.length_filter_le (scB n) (l.take 200)
 simp at this ⊢
 omega
def soB (n:Network) (l:List Scan):List Scan:=yC (okS n l)
theorem qz (n:Network) (l:List Scan):(soB n l).length≤200:=Nat.le_trans (DJ _) (z9 n l)
theorem Ci {n:Network} (ht:n.tot≤1048576) (l:List Scan) (hl:l.length≤1048576):ea G.real TE.real n l=some (soB n l):=by
 have h2:=z9 n l
 unfold ea nO
 have hm:G.real.imin (l.length:Int) 200=((min l.length 200:Nat):Int):=by
  show min (l.length:Int) 200=_
  omega
 simp only[ml,y7,hm,bp,Int.toNat_natCast,Int.toNat_zero,List.drop_zero,a9,bC,dz]
 have ht2:l.take (min l.length 200)=l.take 200:=by
  rw[Nat.min_comm,←List.take_eq_take_min]
 rw[aj (by omega),ht2,yE ht _ _ (by simp;omega),ag,List.nil_append,show(l.take 200).filter (scB n)=okS n l from rfl,aj (by omega),ag,aj (by omega)]
 have hc:ap 0 ((okS n l).length:Int)=(okS n l).length:=by unfold ap;omega
 have hlm:((okS n l).mergeSort leS).length=(okS n l).length:=List.length_mergeSort _
 rw[hc,show(0:Int)=((0:Nat):Int) from rfl,vh _ (by omega) _ 0 [] (by omega) (by simp),ag]
 simp[ddG,soB,yC]
def gZ (x:Scan):List Scan→Nat
 |[]=>0
 |y::l=>if cmS y x<0 then gZ x l+1 else 0
theorem Aj (x:Scan):∀l,gZ x l≤l.length
 |[]=>by simp[gZ]
 |y::l=>by
  have:=Aj x l
  unfold gZ
  split<;>simp<;>omega
theorem wQ (x:Scan):∀{l:List Scan},gZ x l=l.length→i4 x l=l++[x]
 |[],_=>rfl
 |y::l,h=>by
  unfold gZ at h
  split at h
  ·rw[i4,if_pos ‹_›,wQ x (by simpa using h)];rfl
  ·simp at h
theorem tH (x:Scan):∀{l:List Scan} {y:Scan},l[gZ x l]?=some y→cmS y x=0→i4 x l=l
 |[],_,h,_=>by simp at h
 |z::l,y,h,e=>by
  unfold gZ at h
  split at h
  ·rw[i4,if_pos ‹_›,tH x (by simpa using h) e]
  ·simp at h
   subst h
   rw[i4,if_neg ‹_›,if_pos e]
theorem wD (x:Scan):∀{l:List Scan} {y:Scan},l[gZ x l]?=some y→cmS y x≠0→i4 x l=l.take (gZ x l)++x::l.drop (gZ x l)
 |[],_,h,_=>by simp at h
 |z::l,y,h,e=>by
  unfold gZ at h ⊢
  split at h
  ·rename_i c
   rw[i4,if_pos c,if_pos c,wD x (by simpa using h) e];simp
  ·rename_i c
   simp at h
   subst h
   rw[i4,if_neg c,if_neg e,if_neg c];simp
theorem Cj (w:List Scan) (x:Scan) (hw:w.length≤4194304):∀(n k:Nat),k+n=w.length→cg G.real TE.real w x n (k:Int)=some ((k+gZ x (w.drop k):Nat):Int)
 |0,k,h=>by rw[cg,List.drop_of_length_le (by omega)];rfl
 |n+1,k,h=>by
  have hk:k<w.length:=by omega
  rw[cg]
  simp only[bp,Int.toNat_natCast,bq,dR,dq,cm_s,ag,am]
  rw[aq (List.getElem?_eq_getElem hk),w64 (by omega) (by omega),show(k:Int)+1=((k+1:Nat):Int) from by omega,Cj w x hw n (k+1) (by omega),List.drop_eq_getElem_cons hk,gZ]
  split
  ·congr 2;omega
  ·rfl
theorem yq {n:Network} (ht:n.tot≤1048576):∀(l:List Scan) (v:Nat) (w:List Scan),v+l.length≤4194304→w.length≤v→bu G.real TE.real n l (v:Int) w=some (((l.take (200-v)).filter (scB n)).foldl (fun o x=>i4 x o) w)
 |[],v,w,_,_=>by rw[bu];simp
 |z::l,v,w,h,hw=>by
  simp only[List.length_cons] at h
  rw[bu]
  simp only[dR,am]
  by_cases hv:v<200
  ·rw[if_pos (by omega)]
   simp only[dq,A4 ht,ag,bq]
   have e2:(z::l).take (200-v)=z::l.take (200-(v+1)):=by
    rw[show 200-v=200-(v+1)+1 by omega,List.take_succ_cons]
   rw[e2,w64 (n:=(v:Int)+1) (by omega) (by omega),show(v:Int)+1=((v+1:Nat):Int) from by omega]
   cases hb:scB n z with
   |false=>
    rw[qk,yq ht l (v+1) w (by omega) (by omega),List.filter_cons_of_neg (by simp[hb])]
   |true=>
    rw[cu,List.filter_cons_of_pos hb,List.foldl_cons]
    have ih:=yq ht l (v+1) (i4 z w) (by omega) (by have:=vJ z w;omega)
    rw[←ih]
    have cn:ap 0 (w.length:Int)=w.length:=by unfold ap;omega
    have hl2:cg G.real TE.real w z w.length 0=some ((gZ z w:Nat):Int):=by simpa using Cj w z (by omega) w.length 0 (by omega)
    have hle:=Aj z w
    simp only[bC,dz,bp,za,a9,dM,gn]
    rw[aj (by omega),cn,hl2,ag,am]
    have hv2:[]++(List.take (Int.toNat ((gZ z w:Nat):Int)-Int.toNat 0) (List.drop (Int.toNat 0) w))++[z]++(List.take (Int.toNat (w.length:Int)-Int.toNat ((gZ z w:Nat):Int)) (List.drop (Int.toNat ((gZ z w:Nat):Int)) w))=w.take (gZ z w)++z::w.drop (gZ z w):=by
     simp only[Int.toNat_natCast,Int.toNat_zero,Nat.sub_zero,List.drop_zero,List.nil_append]
     rw[List.take_of_length_le (l:=List.drop (gZ z w) w) (by simp)]
     simp
    by_cases hc:gZ z w=w.length
    ·rw[if_pos (by omega)]
     repeat rw[aj (by simp;omega)]
     rw[hv2,wQ z hc,hc];simp
    ·have hx:w[Int.toNat ((gZ z w:Nat):Int)]?=some (w[gZ z w]'(by omega)):=by
      rw[Int.toNat_natCast];exact List.getElem?_eq_getElem (by omega)
     have hx2:w[gZ z w]?=some (w[gZ z w]'(by omega)):=List.getElem?_eq_getElem (by omega)
     rw[if_neg (by omega),aj (by omega),aq hx,wP,am]
     by_cases he:cmS (w[gZ z w]'(by omega)) z=0
     ·rw[if_pos he,tH z hx2 he]
     ·rw[if_neg he]
      repeat rw[aj (by simp;omega)]
      rw[hv2,wD z hx2 he]
  ·rw[if_neg (by omega),show 200-v=0 by omega];simp
theorem Id {n:Network} (ht:n.tot≤1048576) (l:List Scan) (hl:l.length≤1048576):fZ G.real TE.real n l=some (soB n l):=by
 unfold fZ
 have h:=yq ht l 0 [] (by omega) (by simp)
 rw[a9,show(0:Int)=((0:Nat):Int) from rfl,h,ag]
 exact congrArg some (Av _)
def ir (n:Network) (l:List Scan) (x:Int):List Scan:=(soB n l).filter fun s=>decide (s.Thing=x)
theorem iV (n:Network) (l:List Scan) (x:Int):(ir n l x).length≤200:=Nat.le_trans (List.length_filter_le _ _) (qz n l)
theorem yL (x:Int) (l:List Scan) (hl:l.length≤4194304):∀(m k:Nat) (w:List Scan),k+m=l.length→w.length≤k→bK G.real TE.real x l m (k:Int) w=some (w++(l.drop k).filter fun s=>decide (s.Thing=x))
 |0,k,w,h,_=>by rw[bK,List.drop_of_length_le (by omega)];simp
 |m+1,k,w,h,hw=>by
  have hk:k<l.length:=by omega
  rw[bK]
  simp only[bp,Int.toNat_natCast,bq,dM,a9,dq,am]
  rw[aq (List.getElem?_eq_getElem hk),w64 (by omega) (by omega),show(k:Int)+1=((k+1:Nat):Int) from by omega,List.drop_eq_getElem_cons hk]
  by_cases hc:l[k].Thing=x
  ·rw[if_pos hc,aj (by simp;omega),yL x l hl m (k+1) _ (by omega) (by simp;omega),List.filter_cons_of_pos (by simp[hc])];simp
  ·rw[if_neg hc,yL x l hl m (k+1) _ (by omega) (by omega),List.filter_cons_of_neg (by simp[hc])]
theorem CA (x:Int) (l:List Scan):∀(m:Nat) (k:Int) (w:List Scan),cV G.real TE.real x l m k w=bK G.real TE.real x l m k w
 |0,k,w=>by rw[cV,bK]
 |m+1,k,w=>by rw[cV,bK];simp only[CA x l m]
theorem ub {n:Network} (ht:n.tot≤1048576) (l:List Scan) (hl:l.length≤1048576) (x:Int):d7 G.real TE.real n l x=some (ir n l x):=by
 have h2:=qz n l
 unfold d7
 simp only[a9,Ci ht l hl,ag,bC,dz]
 have hc:ap 0 ((soB n l).length:Int)=(soB n l).length:=by unfold ap;omega
 rw[aj (by omega),hc,show(0:Int)=((0:Nat):Int) from rfl,yL x _ (by omega) _ 0 [] (by omega) (by simp),ag]
 simp[ir]
theorem HD {n:Network} (ht:n.tot≤1048576) (l:List Scan) (hl:l.length≤1048576) (x:Int):j7 G.real TE.real n l x=some (ir n l x):=by
 rw[←ub ht l hl x]
 unfold j7 d7
 simp only[Id ht l hl,Ci ht l hl,CA]
end Go.Vs
namespace Go.Vs
open Go.IntWalk
def clF (n:Network):Scan→Nat→List Scan→List Int
 |_,_,[]=>[]
 |p,k,x::l=>if cfB n p x=true then clF n x (k+1) l else(k:Int)::clF n x (k+1) l
def Gr (n:Network):List Scan→List Int
 |[]=>[]
 |x::l=>clF n x 1 l
def vG (n:Network) (l:List Scan) (x:Int):List Int:=Gr n (ir n l x)
theorem zg (n:Network):∀(l:List Scan) (p:Scan) (k:Nat),(clF n p k l).length≤l.length
 |[],_,_=>Nat.le_refl _
 |x::l,p,k=>by
  have:=zg n l x (k+1)
  unfold clF
  split<;>simp<;>omega
theorem Dd (n:Network) (l:List Scan) (x:Int):(vG n l x).length≤200:=by
 have h:=iV n l x
 unfold vG
 cases hs:ir n l x with
 |nil=>exact Nat.zero_le _
 |cons y m=>rw[hs] at h;have:=zg n m y 1;simp only[List.length_cons] at h;show(clF n y 1 m).length≤200;omega
theorem yO {n:Network} (ht:n.tot≤1048576) (l:List Scan) (hl:l.length≤1048576):∀(m k:Nat) (w:List Int),k+1+m=l.length→w.length≤k→∀p,l[k]?=some p→cv G.real TE.real n l m ((k+1:Nat):Int) w=some (w++clF n p (k+1) (l.drop (k+1)))
 |0,k,w,h,_,p,hp=>by rw[cv,List.drop_of_length_le (by omega),clF];simp
 |m+1,k,w,h,hw,p,hp=>by
  have hk:k+1<l.length:=by omega
  have hg:=List.getElem?_eq_getElem hk
  rw[cv]
  simp only[bp,Int.toNat_natCast,bq,gq,a9,dq,bC]
  rw[w64 (n:=((k+1:Nat):Int)-1) (by omega) (by omega),aj (by omega),show(((k+1:Nat):Int)-1).toNat=k from by omega,aq hp,aq hg,D6 ht (gw ht),ag,w64 (by omega) (by omega),show((k+1:Nat):Int)+1=((k+1+1:Nat):Int) from by omega,List.drop_eq_getElem_cons hk,clF]
  cases hc:cfB n p l[k+1] with
  |true=>rw[cu,if_pos rfl,yO ht l hl m (k+1) w (by omega) (by omega) _ hg]
  |false=>
   rw[qk,if_neg (by simp),aj (by simp;omega),yO ht l hl m (k+1) _ (by omega) (by simp;omega) _ hg];simp
theorem Cb {n:Network} (ht:n.tot≤1048576) (l:List Scan) (hl:l.length≤1048576) (x:Int):gb G.real TE.real n l x=some (vG n l x):=by
 have h2:=iV n l x
 unfold gb vG
 simp only[a9,ub ht l hl,ag,bC,dz]
 rw[aj (by omega)]
 cases hs:ir n l x with
 |nil=>rw[show ap 1 (([]:List Scan).length:Int)=0 from rfl,cv];rfl
 |cons y m=>
  rw[hs] at h2
  have hc:ap 1 ((y::m).length:Int)=m.length:=by unfold ap;simp only[List.length_cons];omega
  rw[hc,show(1:Int)=((0+1:Nat):Int) from rfl,yO ht (y::m) (by omega) m.length 0 [] (by simp;omega) (by simp) y rfl,ag]
  rfl
def cnG (n:Network):Option Scan→List Scan→List Scan
 |_,[]=>[]
 |none,x::l=>x::cnG n (some x) l
 |some p,x::l=>if cfB n p x=true then x::cnG n (some x) l else cnG n (some p) l
def cnB (n:Network) (l:List Scan) (x:Int):List Scan:=cnG n none (ir n l x)
theorem nF (n:Network):∀(l:List Scan) (p:Option Scan),(cnG n p l).Sublist l
 |[],p=>by cases p<;>exact List.Sublist.refl _
 |x::l,none=>by rw[cnG];exact(nF n l (some x)).cons_cons x
 |x::l,some p=>by
  rw[cnG];split
  ·exact(nF n l (some x)).cons_cons x
  ·exact(nF n l (some p)).cons x
theorem qq (n:Network) (l:List Scan) (x:Int):(cnB n l x).length≤200:=Nat.le_trans (nF n _ _).length_le (iV n l x)
theorem ut (w:List Scan) (z:Scan):(w++[z]).getLast? =some z:=by simp
theorem uL {n:Network} (ht:n.tot≤1048576) (l:List Scan) (hl:l.length≤1048576):∀(m k:Nat) (w:List Scan),k+m=l.length→w.length≤k→cz G.real TE.real n l m (k:Int) w=some (w++cnG n w.getLast? (l.drop k))
 |0,k,w,h,_=>by rw[cz,List.drop_of_length_le (by omega)];cases w.getLast? <;>simp[cnG]
 |m+1,k,w,h,hw=>by
  have hk:k<l.length:=by omega
  rw[cz]
  simp only[bp,Int.toNat_natCast,bq,gq,dM,dz,a9,dq,bC]
  rw[aq (List.getElem?_eq_getElem hk),w64 (n:=(k:Int)+1) (by omega) (by omega),show(k:Int)+1=((k+1:Nat):Int) from by omega,List.drop_eq_getElem_cons hk]
  by_cases h0:w=[]
  ·subst h0
   rw[show decide ((([]:List Scan).length:Int)=0)=true from rfl,cu,aj (by simp),uL ht l hl m (k+1) _ (by omega) (by simp),show([]:List Scan).getLast? =none from rfl,show cnG n none (l[k]::l.drop (k+1))=l[k]::cnG n (some l[k]) (l.drop (k+1)) from rfl]
   simp
  ·have hwl:0<w.length:=List.length_pos_iff.2 h0
   have hp:w[w.length-1]?=some (w[w.length-1]'(by omega)):=List.getElem?_eq_getElem (by omega)
   have hlast:w.getLast? =some (w[w.length-1]'(by omega)):=by rw[List.getLast?_eq_getElem?,hp]
   rw[am,if_neg (by omega),w64 (by omega) (by omega),aj (by omega),show((w.length:Int)-1).toNat=w.length-1 from by omega,aq hp,D6 ht (gw ht),ag,hlast,cnG]
   cases hc:cfB n (w[w.length-1]'(by omega)) l[k] with
   |true=>
    rw[cu,if_pos rfl,aj (by simp;omega),uL ht l hl m (k+1) _ (by omega) (by simp;omega),ut];simp
   |false=>rw[qk,if_neg (by simp),uL ht l hl m (k+1) _ (by omega) (by omega),hlast]
theorem uQ {n:Network} (ht:n.tot≤1048576) (l:List Scan) (hl:l.length≤1048576):∀(m k:Nat) (w:List Scan),k+m=l.length→w.length≤k→cw G.real TE.real n l m (k:Int) w=some (w++cnG n w.getLast? (l.drop k))
 |0,k,w,h,_=>by rw[cw,List.drop_of_length_le (by omega)];cases w.getLast? <;>simp[cnG]
 |m+1,k,w,h,hw=>by
  have hk:k<l.length:=by omega
  rw[cw]
  simp only[bp,Int.toNat_natCast,bq,gq,dM,dz,a9,dq,bC]
  rw[w64 (n:=(k:Int)+1) (by omega) (by omega),show(k:Int)+1=((k+1:Nat):Int) from by omega,List.drop_eq_getElem_cons hk]
  by_cases h0:w=[]
  ·subst h0
   rw[show decide ((([]:List Scan).length:Int)=0)=true from rfl,cu,aq (List.getElem?_eq_getElem hk),aj (by simp),uQ ht l hl m (k+1) _ (by omega) (by simp),show([]:List Scan).getLast? =none from rfl,show cnG n none (l[k]::l.drop (k+1))=l[k]::cnG n (some l[k]) (l.drop (k+1)) from rfl]
   simp
  ·have hwl:0<w.length:=List.length_pos_iff.2 h0
   have hp:w[w.length-1]?=some (w[w.length-1]'(by omega)):=List.getElem?_eq_getElem (by omega)
   have hlast:w.getLast? =some (w[w.length-1]'(by omega)):=by rw[List.getLast?_eq_getElem?,hp]
   rw[am,if_neg (by omega),w64 (by omega) (by omega),aj (by omega),show((w.length:Int)-1).toNat=w.length-1 from by omega,aq hp,aq (List.getElem?_eq_getElem hk),cf_s ht (gw ht),ag,hlast,cnG]
   cases hc:cfB n (w[w.length-1]'(by omega)) l[k] with
   |true=>
    rw[cu,if_pos rfl,aj (by simp;omega),uQ ht l hl m (k+1) _ (by omega) (by simp;omega),ut];simp
   |false=>rw[qk,if_neg (by simp),uQ ht l hl m (k+1) _ (by omega) (by omega),hlast]
theorem AN {n:Network} (ht:n.tot≤1048576) (l:List Scan) (hl:l.length≤1048576) (x:Int):dk G.real TE.real n l x=some (cnB n l x):=by
 have h2:=iV n l x
 unfold dk
 simp only[a9,ub ht l hl,ag,bC,dz]
 have hc:ap 0 ((ir n l x).length:Int)=(ir n l x).length:=by unfold ap;omega
 rw[aj (by omega),hc,show(0:Int)=((0:Nat):Int) from rfl,uL ht _ (by omega) _ 0 [] (by omega) (by simp),ag]
 rfl
theorem GM {n:Network} (ht:n.tot≤1048576) (l:List Scan) (hl:l.length≤1048576) (x:Int):gF G.real TE.real n l x=some (cnB n l x):=by
 have h2:=iV n l x
 unfold gF
 simp only[a9,HD ht l hl,ag,bC,dz]
 have hc:ap 0 ((ir n l x).length:Int)=(ir n l x).length:=by unfold ap;omega
 rw[aj (by omega),hc,show(0:Int)=((0:Nat):Int) from rfl,uQ ht _ (by omega) _ 0 [] (by omega) (by simp),ag]
 rfl
def z0S:Scan:=⟨0,0,0,.empty,⟨0,0⟩⟩
def opS:Option Scan→Scan×Bool
 |some s=>(s,true)
 |none=>(z0S,false)
def laB (n:Network) (l:List Scan) (x at_:Int):Scan×Bool:=opS ((cnB n l x).reverse.find? fun s=>decide (s.At≤at_))
def nxB (n:Network) (l:List Scan) (x at_:Int):Scan×Bool:=opS ((cnB n l x).find? fun s=>decide (at_<s.At))
theorem Dj (a:Int) (l:List Scan) (hl:l.length≤1048576):∀(k f:Nat),k≤l.length→k<f→bG G.real TE.real a l f ((k:Int)-1)=some (match (l.take k).reverse.find? fun s=>decide (s.At≤a) with|some s=>.ret (s,true)|none=>.out ())
 |0,f+1,_,_=>by rw[bG,jQ,am,if_neg (by omega)];rfl
 |k+1,f+1,h,hf=>by
  have hk:k<l.length:=by omega
  have hg:=List.getElem?_eq_getElem hk
  rw[bG]
  simp only[jQ,bp,bC,gq,dq,am]
  rw[if_pos (by omega),show((k+1:Nat):Int)-1=(k:Int) by omega,aj (by omega),Int.toNat_natCast,aq hg,w64 (by omega) (by omega),Dj a l hl k f (by omega) (by omega)]
  rw[List.take_add_one,hg,Option.toList_some,List.reverse_append,List.reverse_singleton,List.singleton_append,List.find?_cons]
  by_cases hc:l[k].At≤a
  ·rw[if_pos hc,aj (by omega),decide_eq_true hc]
  ·rw[if_neg hc,decide_eq_false hc]
theorem Ds (a:Int) (l:List Scan):∀(f:Nat) (v:Int),cY G.real TE.real a l f v=bG G.real TE.real a l f v
 |0,v=>by rw[cY,bG]
 |f+1,v=>by rw[cY,bG];simp only[Ds a l f]
theorem Hz {n:Network} (ht:n.tot≤1048576) (l:List Scan) (hl:l.length≤1048576) (x a:Int):fL G.real TE.real n l x a=some (laB n l x a):=by
 have h2:=qq n l x
 unfold fL
 rw[AN ht l hl,ag]
 simp only[bC,dz,gq]
 rw[w64 (by omega) (by omega),Dj a _ (by omega) _ _ (Nat.le_refl _) (by omega),List.take_length,ag]
 unfold laB
 cases (cnB n l x).reverse.find? fun s=>decide (s.At≤a)<;>rfl
theorem la_s {n:Network} (ht:n.tot≤1048576) (l:List Scan) (hl:l.length≤1048576) (x a:Int):gK G.real TE.real n l x a=some (laB n l x a):=by
 rw[←Hz ht l hl x a]
 unfold gK fL
 rw[AN ht l hl,GM ht l hl,ag,ag]
 simp only[Ds]
theorem DE (a:Int) (l:List Scan) (hl:l.length≤1048576):∀(m k:Nat),k+m=l.length→cZ G.real TE.real a l m (k:Int)=some (match (l.drop k).find? fun s=>decide (a<s.At) with|some s=>.ret (s,true)|none=>.out ())
 |0,k,h=>by rw[cZ,List.drop_of_length_le (by omega)];rfl
 |m+1,k,h=>by
  have hk:k<l.length:=by omega
  rw[cZ]
  simp only[bp,Int.toNat_natCast,bq,dR,dq,am]
  rw[aq (List.getElem?_eq_getElem hk),w64 (by omega) (by omega),show(k:Int)+1=((k+1:Nat):Int) from by omega,DE a l hl m (k+1) (by omega),List.drop_eq_getElem_cons hk,List.find?_cons]
  by_cases hc:a<l[k].At
  ·rw[if_pos hc,decide_eq_true hc]
  ·rw[if_neg hc,decide_eq_false hc]
theorem nx_i {n:Network} (ht:n.tot≤1048576) (l:List Scan) (hl:l.length≤1048576) (x a:Int):eO G.real TE.real n l x a=some (nxB n l x a):=by
 have h2:=qq n l x
 unfold eO
 rw[AN ht l hl,ag]
 simp only[bC,dz]
 have hc:ap 0 ((cnB n l x).length:Int)=(cnB n l x).length:=by unfold ap;omega
 rw[aj (by omega),hc,show(0:Int)=((0:Nat):Int) from rfl,DE a _ (by omega) _ _ (by omega),ag,List.drop_zero]
 unfold nxB
 cases (cnB n l x).find? fun s=>decide (a<s.At)<;>rfl
end Go.Vs
