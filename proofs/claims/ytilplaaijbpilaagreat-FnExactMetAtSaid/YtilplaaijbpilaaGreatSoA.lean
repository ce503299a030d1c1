/- Part of the proofs of this seat's laws: SoA. No condition. -/
import Derived.Test.YtilplaaijbpilaaGreatLac
import Derived.Test.YtilplaaijbpilaaGreatWays
import Derived.Test.YtilplaaijbpilaaGreatLab
import Derived.Test.YtilplaaijbpilaaGreatLad
set_option linter.unusedVariables false
set_option linter.unusedSimpArgs false
set_option linter.unusedSectionVars false
namespace Go.Vs
open Go.IntWalk
theorem wU (a b:Scan):G.real.all [decide (a.Thing=b.Thing),decide (a.At=b.At),decide (a.Kind=b.Kind),decide (a.Place=b.Place),decide (a.Trip.Leg=b.Trip.Leg),decide (a.Trip.Day=b.Trip.Day)]=decide (cmS a b=0):=by
 have h:(cmS a b=0)↔(a.Thing=b.Thing∧a.At=b.At∧a.Kind=b.Kind∧a.Place=b.Place∧a.Trip.Leg=b.Trip.Leg∧a.Trip.Day=b.Trip.Day):=by
  constructor
  ·intro e
   have:=mM e
   subst this
   exact⟨rfl,rfl,rfl,rfl,rfl,rfl⟩
  ·rintro⟨h1,h2,h3,h4,h5,h6⟩
   have:a=b:=by
    cases a with
    |mk t1 a1 k1 p1 tr1=>cases b with
     |mk t2 a2 k2 p2 tr2=>cases tr1;cases tr2;simp_all
   subst this
   exact vI a
 rw[tR]
 simp only[List.all_cons,List.all_nil,id,Bool.and_true,←Bool.decide_and]
 exact decide_eq_decide.2 h.symm
theorem eB (z:Scan):Scan.mk z.Thing z.At z.Kind z.Place (Trip.mk z.Trip.Leg z.Trip.Day)=z:=rfl
theorem y6 {n:Network} (ht:n.tot≤1048576):∀(l w:List Scan),w.length+l.length≤4194304→cj G.real TE.real n l w=some (w++l.filter (scB n))
 |[],w,_=>by rw[cj];simp
 |z::l,w,h=>by
  simp only[List.length_cons] at h
  rw[cj]
  simp only[eB,Bp ht,af,az]
  cases hb:scB n z with
  |true=>
   rw[bd,ag (by simp;omega),y6 ht l _ (by simp;omega),List.filter_cons_of_pos hb];simp
  |false=>
   rw[gX,y6 ht l _ (by omega),List.filter_cons_of_neg (by simp[hb])]
def ddG (l:List Scan) (k:Nat):List Scan:=ddF (if k=0 then none else l[k-1]?) (l.drop k)
theorem vx (l:List Scan) (hl:l.length≤4194304):∀(m k:Nat) (w:List Scan),k+m=l.length→w.length≤k→bJ G.real TE.real l m (k:Int) w=some (w++ddG l k)
 |0,k,w,h,_=>by
  rw[bJ,ddG,List.drop_of_length_le (by omega)]
  cases (if k=0 then none else l[k-1]?)<;>simp[ddF]
 |m+1,k,w,h,hw=>by
  have hk:k<l.length:=by omega
  have hg:=List.getElem?_eq_getElem hk
  rw[bJ]
  simp only[bT,aQ,Int.toNat_natCast,bc,k8,cB,gL,az,eB]
  rw[ag (by omega),ar hg,w64 (n:=(k:Int)+1) (by omega) (by omega),show(k:Int)+1=((k+1:Nat):Int) from by omega]
  rw[ddG,List.drop_eq_getElem_cons hk]
  have e1:ddF (some l[k]) (l.drop (k+1))=ddG l (k+1):=by
   rw[ddG,if_neg (by omega),show k+1-1=k from rfl,hg]
  by_cases h0:k=0
  ·rw[am,if_pos (by omega),ag (by simp;omega),vx l hl m (k+1) _ (by omega) (by simp;omega),if_pos h0,ddF,e1]
   simp
  ·have hp:l[k-1]?=some (l[k-1]'(by omega)):=List.getElem?_eq_getElem (by omega)
   rw[am,if_neg (by omega),w64 (by omega) (by omega),ag (by omega),show((k:Int)-1).toNat=k-1 from by omega,ar hp,wU,am,if_neg h0,hp,ddF]
   by_cases hc:cmS (l[k-1]'(by omega)) l[k]=0
   ·rw[if_pos hc,if_pos hc,vx l hl m (k+1) _ (by omega) (by omega),e1]
   ·rw[if_neg hc,if_neg hc,ag (by simp;omega),vx l hl m (k+1) _ (by omega) (by simp;omega),e1]
    simp
def okS (n:Network) (l:List Scan):List Scan:=(l.take 200).filter (scB n)
theorem zn (n:Network) (l:List Scan):(okS n l).length≤200:=by
 unfold okS
 have:=List.length_filter_le (scB n) (l.take 200)
 simp at this ⊢
 omega
def soB (n:Network) (l:List Scan):List Scan:=yR (okS n l)
theorem zA (n:Network) (l:List Scan):(soB n l).length≤200:=Nat.le_trans (C7 _) (zn n l)
theorem HL {n:Network} (ht:n.tot≤1048576) (l:List Scan) (hl:l.length≤1048576):iK G.real TE.real n l=some (soB n l):=by
 have h2:=zn n l
 unfold iK oo
 have hm:G.real.imin (l.length:Int) 200=((min l.length 200:Nat):Int):=by
  show min (l.length:Int) 200=_
  omega
 simp only[pp,yb,hm,aQ,Int.toNat_natCast,Int.toNat_zero,List.drop_zero,az,bT,bY]
 have ht2:l.take (min l.length 200)=l.take 200:=by
  rw[Nat.min_comm,←List.take_eq_take_min]
 rw[ag (by omega),ht2,y6 ht _ _ (by simp;omega),af,List.nil_append,show(l.take 200).filter (scB n)=okS n l from rfl,ag (by omega),af,ag (by omega)]
 have hc:aq 0 ((okS n l).length:Int)=(okS n l).length:=by unfold aq;omega
 have hlm:((okS n l).mergeSort leS).length=(okS n l).length:=List.length_mergeSort _
 rw[hc,show(0:Int)=((0:Nat):Int) from rfl,vx _ (by omega) _ 0 [] (by omega) (by simp),af]
 simp[ddG,soB,yR]
def hG (x:Scan):List Scan→Nat
 |[]=>0
 |y::l=>if cmS y x<0 then hG x l+1 else 0
theorem zO (x:Scan):∀l,hG x l≤l.length
 |[]=>by simp[hG]
 |y::l=>by
  have:=zO x l
  unfold hG
  split<;>simp<;>omega
theorem wx (x:Scan):∀{l:List Scan},hG x l=l.length→jE x l=l++[x]
 |[],_=>rfl
 |y::l,h=>by
  unfold hG at h
  split at h
  ·rw[jE,if_pos ‹_›,wx x (by simpa using h)];rfl
  ·simp at h
theorem tN (x:Scan):∀{l:List Scan} {y:Scan},l[hG x l]?=some y→cmS y x=0→jE x l=l
 |[],_,h,_=>by simp at h
 |z::l,y,h,e=>by
  unfold hG at h
  split at h
  ·rw[jE,if_pos ‹_›,tN x (by simpa using h) e]
  ·simp at h
   subst h
   rw[jE,if_neg ‹_›,if_pos e]
theorem vD (x:Scan):∀{l:List Scan} {y:Scan},l[hG x l]?=some y→cmS y x≠0→jE x l=l.take (hG x l)++x::l.drop (hG x l)
 |[],_,h,_=>by simp at h
 |z::l,y,h,e=>by
  unfold hG at h ⊢
  split at h
  ·rename_i c
   rw[jE,if_pos c,if_pos c,vD x (by simpa using h) e];simp
  ·rename_i c
   simp at h
   subst h
   rw[jE,if_neg c,if_neg e,if_neg c];simp
theorem Dr (w:List Scan) (x:Scan) (hw:w.length≤4194304):∀(n k:Nat),k+n=w.length→ci G.real TE.real w x n (k:Int)=some ((k+hG x (w.drop k):Nat):Int)
 |0,k,h=>by rw[ci,List.drop_of_length_le (by omega)];rfl
 |n+1,k,h=>by
  have hk:k<w.length:=by omega
  rw[ci]
  simp only[aQ,Int.toNat_natCast,bc,bB,eB,cm_s,af,am]
  rw[ar (List.getElem?_eq_getElem hk),w64 (by omega) (by omega),show(k:Int)+1=((k+1:Nat):Int) from by omega,Dr w x hw n (k+1) (by omega),List.drop_eq_getElem_cons hk,hG]
  split
  ·congr 2;omega
  ·rfl
theorem yq {n:Network} (ht:n.tot≤1048576):∀(l:List Scan) (v:Nat) (w:List Scan),v+l.length≤4194304→w.length≤v→bv G.real TE.real n l (v:Int) w=some (((l.take (200-v)).filter (scB n)).foldl (fun o x=>jE x o) w)
 |[],v,w,_,_=>by rw[bv];simp
 |z::l,v,w,h,hw=>by
  simp only[List.length_cons] at h
  rw[bv]
  simp only[bB,am]
  by_cases hv:v<200
  ·rw[if_pos (by omega)]
   simp only[eB,Aq ht,af,bc]
   have e2:(z::l).take (200-v)=z::l.take (200-(v+1)):=by
    rw[show 200-v=200-(v+1)+1 by omega,List.take_succ_cons]
   rw[e2,w64 (n:=(v:Int)+1) (by omega) (by omega),show(v:Int)+1=((v+1:Nat):Int) from by omega]
   cases hb:scB n z with
   |false=>
    rw[gX,yq ht l (v+1) w (by omega) (by omega),List.filter_cons_of_neg (by simp[hb])]
   |true=>
    rw[bd,List.filter_cons_of_pos hb,List.foldl_cons]
    have ih:=yq ht l (v+1) (jE z w) (by omega) (by have:=xN z w;omega)
    rw[←ih]
    have cn:aq 0 (w.length:Int)=w.length:=by unfold aq;omega
    have hl2:ci G.real TE.real w z w.length 0=some ((hG z w:Nat):Int):=by simpa using Dr w z (by omega) w.length 0 (by omega)
    have hle:=zO z w
    simp only[bT,bY,aQ,CM,az,cB,gL]
    rw[ag (by omega),cn,hl2,af,am]
    have hv2:[]++(List.take (Int.toNat ((hG z w:Nat):Int)-Int.toNat 0) (List.drop (Int.toNat 0) w))++[z]++(List.take (Int.toNat (w.length:Int)-Int.toNat ((hG z w:Nat):Int)) (List.drop (Int.toNat ((hG z w:Nat):Int)) w))=w.take (hG z w)++z::w.drop (hG z w):=by
     simp only[Int.toNat_natCast,Int.toNat_zero,Nat.sub_zero,List.drop_zero,List.nil_append]
     rw[List.take_of_length_le (l:=List.drop (hG z w) w) (by simp)]
     simp
    by_cases hc:hG z w=w.length
    ·rw[if_pos (by omega)]
     repeat rw[ag (by simp;omega)]
     rw[hv2,wx z hc,hc];simp
    ·have hx:w[Int.toNat ((hG z w:Nat):Int)]?=some (w[hG z w]'(by omega)):=by
      rw[Int.toNat_natCast];exact List.getElem?_eq_getElem (by omega)
     have hx2:w[hG z w]?=some (w[hG z w]'(by omega)):=List.getElem?_eq_getElem (by omega)
     rw[if_neg (by omega),ag (by omega),ar hx,wU,am]
     by_cases he:cmS (w[hG z w]'(by omega)) z=0
     ·rw[if_pos he,tN z hx2 he]
     ·rw[if_neg he]
      repeat rw[ag (by simp;omega)]
      rw[hv2,vD z hx2 he]
  ·rw[if_neg (by omega),show 200-v=0 by omega];simp
theorem so_s {n:Network} (ht:n.tot≤1048576) (l:List Scan) (hl:l.length≤1048576):iB G.real TE.real n l=some (soB n l):=by
 unfold iB
 have h:=yq ht l 0 [] (by omega) (by simp)
 rw[az,show(0:Int)=((0:Nat):Int) from rfl,h,af]
 exact congrArg some (AF _)
def uM (n:Network) (l:List Scan) (x:Int):List Scan:=(soB n l).filter fun s=>decide (s.Thing=x)
theorem sP (n:Network) (l:List Scan) (x:Int):(uM n l x).length≤200:=Nat.le_trans (List.length_filter_le _ _) (zA n l)
theorem yY (x:Int) (l:List Scan) (hl:l.length≤4194304):∀(m k:Nat) (w:List Scan),k+m=l.length→w.length≤k→bQ G.real TE.real x l m (k:Int) w=some (w++(l.drop k).filter fun s=>decide (s.Thing=x))
 |0,k,w,h,_=>by rw[bQ,List.drop_of_length_le (by omega)];simp
 |m+1,k,w,h,hw=>by
  have hk:k<l.length:=by omega
  rw[bQ]
  simp only[aQ,Int.toNat_natCast,bc,cB,az,eB,am]
  rw[ar (List.getElem?_eq_getElem hk),w64 (by omega) (by omega),show(k:Int)+1=((k+1:Nat):Int) from by omega,List.drop_eq_getElem_cons hk]
  by_cases hc:l[k].Thing=x
  ·rw[if_pos hc,ag (by simp;omega),yY x l hl m (k+1) _ (by omega) (by simp;omega),List.filter_cons_of_pos (by simp[hc])];simp
  ·rw[if_neg hc,yY x l hl m (k+1) _ (by omega) (by omega),List.filter_cons_of_neg (by simp[hc])]
theorem C2 (x:Int) (l:List Scan):∀(m:Nat) (k:Int) (w:List Scan),df G.real TE.real x l m k w=bQ G.real TE.real x l m k w
 |0,k,w=>by rw[df,bQ]
 |m+1,k,w=>by rw[df,bQ];simp only[C2 x l m]
theorem EV {n:Network} (ht:n.tot≤1048576) (l:List Scan) (hl:l.length≤1048576) (x:Int):jw G.real TE.real n l x=some (uM n l x):=by
 have h2:=zA n l
 unfold jw
 simp only[az,HL ht l hl,af,bT,bY]
 have hc:aq 0 ((soB n l).length:Int)=(soB n l).length:=by unfold aq;omega
 rw[ag (by omega),hc,show(0:Int)=((0:Nat):Int) from rfl,yY x _ (by omega) _ 0 [] (by omega) (by simp),af]
 simp[uM]
theorem Gp {n:Network} (ht:n.tot≤1048576) (l:List Scan) (hl:l.length≤1048576) (x:Int):kI G.real TE.real n l x=some (uM n l x):=by
 rw[←EV ht l hl x]
 unfold kI jw
 simp only[so_s ht l hl,HL ht l hl,C2]
end Go.Vs
namespace Go.Vs
open Go.IntWalk
theorem qL:∀(l:List Scan) (p:Option Scan),(ddF p l).Sublist l
 |[],p=>by cases p<;>exact List.Sublist.refl _
 |x::l,none=>by rw[ddF];exact(qL l (some x)).cons_cons x
 |x::l,some p=>by
  rw[ddF];split
  ·exact(qL l (some x)).cons x
  ·exact(qL l (some x)).cons_cons x
def HW (l:List Scan):Nat:=l.length+dL (fun y=>Scan.tot y) l
end Go.Vs
