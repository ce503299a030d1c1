/- Part of the proofs of this seat's laws: SoA. No condition. -/
import Derived.Test.YtilplaaijbpilaaGreatLab
import Derived.Test.YtilplaaijbpilaaGreatWays
import Derived.Test.YtilplaaijbpilaaGreatLaa
import Derived.Test.YtilplaaijbpilaaGreatLac
set_option linter.unusedVariables false
set_option linter.unusedSimpArgs false
set_option linter.unusedSectionVars false
namespace Go.Vs
open Go.IntWalk
theorem za (a b:Scan):G.real.all [decide (a.Thing=b.Thing),decide (a.At=b.At),decide (a.Kind=b.Kind),decide (a.Place=b.Place),decide (a.Trip.Leg=b.Trip.Leg),decide (a.Trip.Day=b.Trip.Day)]=decide (cmS a b=0):=by
 have h:(cmS a b=0)↔(a.Thing=b.Thing∧a.At=b.At∧a.Kind=b.Kind∧a.Place=b.Place∧a.Trip.Leg=b.Trip.Leg∧a.Trip.Day=b.Trip.Day):=by
  constructor
  ·intro e
   have:=nL e
   subst this
   exact⟨rfl,rfl,rfl,rfl,rfl,rfl⟩
  ·rintro⟨h1,h2,h3,h4,h5,h6⟩
   have:a=b:=by
    cases a with
    |mk t1 a1 k1 p1 tr1=>cases b with
     |mk t2 a2 k2 p2 tr2=>cases tr1;cases tr2;simp_all
   subst this
   exact xX a
 rw[vn]
 simp only[List.all_cons,List.all_nil,id,Bool.and_true,←Bool.decide_and]
 exact decide_eq_decide.2 h.symm
theorem dh (z:Scan):Scan.mk z.Thing z.At z.Kind z.Place (Trip.mk z.Trip.Leg z.Trip.Day)=z:=rfl
theorem zz {n:Network} (ht:n.tot≤1048576):∀(l w:List Scan),w.length+l.length≤4194304→cY G.real TE.real n l w=some (w++l.filter (scB n))
 |[],w,_=>by rw[cY];simp
 |z::l,w,h=>by
  simp only[List.length_cons] at h
  rw[cY]
  simp only[dh,B0 ht,ag,aA]
  cases hb:scB n z with
  |true=>
   rw[ba,aj (by simp;omega),zz ht l _ (by simp;omega),List.filter_cons_of_pos hb];simp
  |false=>
   rw[jn,zz ht l _ (by omega),List.filter_cons_of_neg (by simp[hb])]
def ddG (l:List Scan) (k:Nat):List Scan:=ddF (if k=0 then none else l[k-1]?) (l.drop k)
theorem ww (l:List Scan) (hl:l.length≤4194304):∀(m k:Nat) (w:List Scan),k+m=l.length→w.length≤k→cz G.real TE.real l m (k:Int) w=some (w++ddG l k)
 |0,k,w,h,_=>by
  rw[cz,ddG,List.drop_of_length_le (by omega)]
  cases (if k=0 then none else l[k-1]?)<;>simp[ddF]
 |m+1,k,w,h,hw=>by
  have hk:k<l.length:=by omega
  have hg:=List.getElem?_eq_getElem hk
  rw[cz]
  simp only[bx,aZ,Int.toNat_natCast,bm,kN,co,iR,aA,dh]
  rw[aj (by omega),az hg,w64 (n:=(k:Int)+1) (by omega) (by omega),show(k:Int)+1=((k+1:Nat):Int) from by omega]
  rw[ddG,List.drop_eq_getElem_cons hk]
  have e1:ddF (some l[k]) (l.drop (k+1))=ddG l (k+1):=by
   rw[ddG,if_neg (by omega),show k+1-1=k from rfl,hg]
  by_cases h0:k=0
  ·rw[ao,if_pos (by omega),aj (by simp;omega),ww l hl m (k+1) _ (by omega) (by simp;omega),if_pos h0,ddF,e1]
   simp
  ·have hp:l[k-1]?=some (l[k-1]'(by omega)):=List.getElem?_eq_getElem (by omega)
   rw[ao,if_neg (by omega),w64 (by omega) (by omega),aj (by omega),show((k:Int)-1).toNat=k-1 from by omega,az hp,za,ao,if_neg h0,hp,ddF]
   by_cases hc:cmS (l[k-1]'(by omega)) l[k]=0
   ·rw[if_pos hc,if_pos hc,ww l hl m (k+1) _ (by omega) (by omega),e1]
   ·rw[if_neg hc,if_neg hc,aj (by simp;omega),ww l hl m (k+1) _ (by omega) (by simp;omega),e1]
    simp
def okS (n:Network) (l:List Scan):List Scan:=(l.take 200).filter (scB n)
theorem Bp (n:Network) (l:List Scan):(okS n l).length≤200:=by
 unfold okS
 have:=List.length_filter_le (scB n) (l.take 200)
 simp at this ⊢
 omega
def soB (n:Network) (l:List Scan):List Scan:=zw (okS n l)
theorem AL (n:Network) (l:List Scan):(soB n l).length≤200:=Nat.le_trans (EN _) (Bp n l)
theorem Hf {n:Network} (ht:n.tot≤1048576) (l:List Scan) (hl:l.length≤1048576):g7 G.real TE.real n l=some (soB n l):=by
 have h2:=Bp n l
 unfold g7 qt
 have hm:G.real.imin (l.length:Int) 200=((min l.length 200:Nat):Int):=by
  show min (l.length:Int) 200=_
  omega
 simp only[rG,Am,hm,aZ,Int.toNat_natCast,Int.toNat_zero,List.drop_zero,aA,bx,cg]
 have ht2:l.take (min l.length 200)=l.take 200:=by
  rw[Nat.min_comm,←List.take_eq_take_min]
 rw[aj (by omega),ht2,zz ht _ _ (by simp;omega),ag,List.nil_append,show(l.take 200).filter (scB n)=okS n l from rfl,aj (by omega),ag,aj (by omega)]
 have hc:ay 0 ((okS n l).length:Int)=(okS n l).length:=by unfold ay;omega
 have hlm:((okS n l).mergeSort leS).length=(okS n l).length:=List.length_mergeSort _
 rw[hc,show(0:Int)=((0:Nat):Int) from rfl,ww _ (by omega) _ 0 [] (by omega) (by simp),ag]
 simp[ddG,soB,zw]
def jU (x:Scan):List Scan→Nat
 |[]=>0
 |y::l=>if cmS y x<0 then jU x l+1 else 0
theorem Bt (x:Scan):∀l,jU x l≤l.length
 |[]=>by simp[jU]
 |y::l=>by
  have:=Bt x l
  unfold jU
  split<;>simp<;>omega
theorem yw (x:Scan):∀{l:List Scan},jU x l=l.length→lN x l=l++[x]
 |[],_=>rfl
 |y::l,h=>by
  unfold jU at h
  split at h
  ·rw[lN,if_pos ‹_›,yw x (by simpa using h)];rfl
  ·simp at h
theorem v9 (x:Scan):∀{l:List Scan} {y:Scan},l[jU x l]?=some y→cmS y x=0→lN x l=l
 |[],_,h,_=>by simp at h
 |z::l,y,h,e=>by
  unfold jU at h
  split at h
  ·rw[lN,if_pos ‹_›,v9 x (by simpa using h) e]
  ·simp at h
   subst h
   rw[lN,if_neg ‹_›,if_pos e]
theorem yQ (x:Scan):∀{l:List Scan} {y:Scan},l[jU x l]?=some y→cmS y x≠0→lN x l=l.take (jU x l)++x::l.drop (jU x l)
 |[],_,h,_=>by simp at h
 |z::l,y,h,e=>by
  unfold jU at h ⊢
  split at h
  ·rename_i c
   rw[lN,if_pos c,if_pos c,yQ x (by simpa using h) e];simp
  ·rename_i c
   simp at h
   subst h
   rw[lN,if_neg c,if_neg e,if_neg c];simp
theorem Eb (w:List Scan) (x:Scan) (hw:w.length≤4194304):∀(n k:Nat),k+n=w.length→cX G.real TE.real w x n (k:Int)=some ((k+jU x (w.drop k):Nat):Int)
 |0,k,h=>by rw[cX,List.drop_of_length_le (by omega)];rfl
 |n+1,k,h=>by
  have hk:k<w.length:=by omega
  rw[cX]
  simp only[aZ,Int.toNat_natCast,bm,bv,dh,cm_s,ag,ao]
  rw[az (List.getElem?_eq_getElem hk),w64 (by omega) (by omega),show(k:Int)+1=((k+1:Nat):Int) from by omega,Eb w x hw n (k+1) (by omega),List.drop_eq_getElem_cons hk,jU]
  split
  ·congr 2;omega
  ·rfl
theorem zT {n:Network} (ht:n.tot≤1048576):∀(l:List Scan) (v:Nat) (w:List Scan),v+l.length≤4194304→w.length≤v→bN G.real TE.real n l (v:Int) w=some (((l.take (200-v)).filter (scB n)).foldl (fun o x=>lN x o) w)
 |[],v,w,_,_=>by rw[bN];simp
 |z::l,v,w,h,hw=>by
  simp only[List.length_cons] at h
  rw[bN]
  simp only[bv,ao]
  by_cases hv:v<200
  ·rw[if_pos (by omega)]
   simp only[dh,CC ht,ag,bm]
   have e2:(z::l).take (200-v)=z::l.take (200-(v+1)):=by
    rw[show 200-v=200-(v+1)+1 by omega,List.take_succ_cons]
   rw[e2,w64 (n:=(v:Int)+1) (by omega) (by omega),show(v:Int)+1=((v+1:Nat):Int) from by omega]
   cases hb:scB n z with
   |false=>
    rw[jn,zT ht l (v+1) w (by omega) (by omega),List.filter_cons_of_neg (by simp[hb])]
   |true=>
    rw[ba,List.filter_cons_of_pos hb,List.foldl_cons]
    have ih:=zT ht l (v+1) (lN z w) (by omega) (by have:=xh z w;omega)
    rw[←ih]
    have cn:ay 0 (w.length:Int)=w.length:=by unfold ay;omega
    have hl2:cX G.real TE.real w z w.length 0=some ((jU z w:Nat):Int):=by simpa using Eb w z (by omega) w.length 0 (by omega)
    have hle:=Bt z w
    simp only[bx,cg,aZ,Eg,aA,co,iR]
    rw[aj (by omega),cn,hl2,ag,ao]
    have hv2:[]++(List.take (Int.toNat ((jU z w:Nat):Int)-Int.toNat 0) (List.drop (Int.toNat 0) w))++[z]++(List.take (Int.toNat (w.length:Int)-Int.toNat ((jU z w:Nat):Int)) (List.drop (Int.toNat ((jU z w:Nat):Int)) w))=w.take (jU z w)++z::w.drop (jU z w):=by
     simp only[Int.toNat_natCast,Int.toNat_zero,Nat.sub_zero,List.drop_zero,List.nil_append]
     rw[List.take_of_length_le (l:=List.drop (jU z w) w) (by simp)]
     simp
    by_cases hc:jU z w=w.length
    ·rw[if_pos (by omega)]
     repeat rw[aj (by simp;omega)]
     rw[hv2,yw z hc,hc];simp
    ·have hx:w[Int.toNat ((jU z w:Nat):Int)]?=some (w[jU z w]'(by omega)):=by
      rw[Int.toNat_natCast];exact List.getElem?_eq_getElem (by omega)
     have hx2:w[jU z w]?=some (w[jU z w]'(by omega)):=List.getElem?_eq_getElem (by omega)
     rw[if_neg (by omega),aj (by omega),az hx,za,ao]
     by_cases he:cmS (w[jU z w]'(by omega)) z=0
     ·rw[if_pos he,v9 z hx2 he]
     ·rw[if_neg he]
      repeat rw[aj (by simp;omega)]
      rw[hv2,yQ z hx2 he]
  ·rw[if_neg (by omega),show 200-v=0 by omega];simp
theorem Jo {n:Network} (ht:n.tot≤1048576) (l:List Scan) (hl:l.length≤1048576):i7 G.real TE.real n l=some (soB n l):=by
 unfold i7
 have h:=zT ht l 0 [] (by omega) (by simp)
 rw[aA,show(0:Int)=((0:Nat):Int) from rfl,h,ag]
 exact congrArg some (B6 _)
def mC (n:Network) (l:List Scan) (x:Int):List Scan:=(soB n l).filter fun s=>decide (s.Thing=x)
theorem nN (n:Network) (l:List Scan) (x:Int):(mC n l x).length≤200:=Nat.le_trans (List.length_filter_le _ _) (AL n l)
theorem zn (x:Int) (l:List Scan) (hl:l.length≤4194304):∀(m k:Nat) (w:List Scan),k+m=l.length→w.length≤k→cC G.real TE.real x l m (k:Int) w=some (w++(l.drop k).filter fun s=>decide (s.Thing=x))
 |0,k,w,h,_=>by rw[cC,List.drop_of_length_le (by omega)];simp
 |m+1,k,w,h,hw=>by
  have hk:k<l.length:=by omega
  rw[cC]
  simp only[aZ,Int.toNat_natCast,bm,co,aA,dh,ao]
  rw[az (List.getElem?_eq_getElem hk),w64 (by omega) (by omega),show(k:Int)+1=((k+1:Nat):Int) from by omega,List.drop_eq_getElem_cons hk]
  by_cases hc:l[k].Thing=x
  ·rw[if_pos hc,aj (by simp;omega),zn x l hl m (k+1) _ (by omega) (by simp;omega),List.filter_cons_of_pos (by simp[hc])];simp
  ·rw[if_neg hc,zn x l hl m (k+1) _ (by omega) (by omega),List.filter_cons_of_neg (by simp[hc])]
theorem Ez (x:Int) (l:List Scan):∀(m:Nat) (k:Int) (w:List Scan),ed G.real TE.real x l m k w=cC G.real TE.real x l m k w
 |0,k,w=>by rw[ed,cC]
 |m+1,k,w=>by rw[ed,cC];simp only[Ez x l m]
theorem yZ {n:Network} (ht:n.tot≤1048576) (l:List Scan) (hl:l.length≤1048576) (x:Int):ib G.real TE.real n l x=some (mC n l x):=by
 have h2:=AL n l
 unfold ib
 simp only[aA,Hf ht l hl,ag,bx,cg]
 have hc:ay 0 ((soB n l).length:Int)=(soB n l).length:=by unfold ay;omega
 rw[aj (by omega),hc,show(0:Int)=((0:Nat):Int) from rfl,zn x _ (by omega) _ 0 [] (by omega) (by simp),ag]
 simp[mC]
theorem Ei {n:Network} (ht:n.tot≤1048576) (l:List Scan) (hl:l.length≤1048576) (x:Int):jY G.real TE.real n l x=some (mC n l x):=by
 rw[←yZ ht l hl x]
 unfold jY ib
 simp only[Jo ht l hl,Hf ht l hl,Ez]
end Go.Vs
namespace Go.Vs
open Go.IntWalk
theorem DA {α:Type} (f:α→Nat) {l m:List α} (h:l.Sublist m):bL f l≤bL f m:=by
 unfold bL
 induction h with
 |slnil=>exact Nat.le_refl _
 |cons x h ih=>simp only[List.map_cons,List.sum_cons];omega
 |cons_cons x h ih=>simp only[List.map_cons,List.sum_cons];omega
theorem B4 {α:Type} (f:α→Nat) {l m:List α} (h:l.Perm m):bL f l=bL f m:=(h.map f).sum_nat
theorem qX:∀(l:List Scan) (p:Option Scan),(ddF p l).Sublist l
 |[],p=>by cases p<;>exact List.Sublist.refl _
 |x::l,none=>by rw[ddF];exact(qX l (some x)).cons_cons x
 |x::l,some p=>by
  rw[ddF];split
  ·exact(qX l (some x)).cons x
  ·exact(qX l (some x)).cons_cons x
def iu (l:List Scan):Nat:=l.length+bL (fun y=>Scan.tot y) l
theorem qf {l m:List Scan} (h:l.Sublist m):iu l≤iu m:=by
 have:=h.length_le
 have:=DA (fun y=>Scan.tot y) h
 unfold iu;omega
theorem AK (n:Network) (l:List Scan):iu (soB n l)≤iu l:=by
 have h1:iu (soB n l)≤iu ((okS n l).mergeSort leS):=qf (qX _ _)
 have h2:iu ((okS n l).mergeSort leS)=iu (okS n l):=by
  have hp:=List.mergeSort_perm (okS n l) leS
  unfold iu
  rw[hp.length_eq,B4 _ hp]
 have h3:iu (okS n l)≤iu l:=qf (List.filter_sublist.trans (List.take_sublist _ _))
 omega
theorem zj (n:Network) (l:List Scan) (x:Int):iu (mC n l x)≤iu l:=Nat.le_trans (qf List.filter_sublist) (AK n l)
end Go.Vs
