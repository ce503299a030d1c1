/- Part of the proofs of this seat's laws: GbA. No condition. -/
import Derived.Test.YtilplaaijbpilaaGreatSoA
import Derived.Test.YtilplaaijbpilaaGreatCy
import Derived.Test.YtilplaaijbpilaaGreatLad
import Derived.Test.YtilplaaijbpilaaGreatLae
set_option linter.unusedVariables false
set_option linter.unusedSimpArgs false
set_option linter.unusedSectionVars false
namespace Go.Vs
open Go.IntWalk
def clF (n:Network):Scan→Nat→List Scan→List Int
 |_,_,[]=>[]
 |p,k,x::l=>if cfB n p x=true then clF n x (k+1) l else(k:Int)::clF n x (k+1) l
def clsL (n:Network):List Scan→List Int
 |[]=>[]
 |x::l=>clF n x 1 l
def tm (n:Network) (l:List Scan) (x:Int):List Int:=clsL n (mC n l x)
theorem Bi (n:Network):∀(l:List Scan) (p:Scan) (k:Nat),(clF n p k l).length≤l.length
 |[],_,_=>Nat.le_refl _
 |x::l,p,k=>by
  have:=Bi n l x (k+1)
  unfold clF
  split<;>simp<;>omega
theorem DS (n:Network) (l:List Scan) (x:Int):(tm n l x).length≤200:=by
 have h:=nN n l x
 unfold tm
 cases hs:mC n l x with
 |nil=>exact Nat.zero_le _
 |cons y m=>rw[hs] at h;have:=Bi n m y 1;simp only[List.length_cons] at h;show(clF n y 1 m).length≤200;omega
theorem zQ {n:Network} (ht:n.tot≤1048576) (l:List Scan) (hl:l.length≤1048576):∀(m k:Nat) (w:List Int),k+1+m=l.length→w.length≤k→∀p,l[k]?=some p→bZ G.real TE.real n l m ((k+1:Nat):Int) w=some (w++clF n p (k+1) (l.drop (k+1)))
 |0,k,w,h,_,p,hp=>by rw[bZ,List.drop_of_length_le (by omega),clF];simp
 |m+1,k,w,h,hw,p,hp=>by
  have hk:k+1<l.length:=by omega
  have hg:=List.getElem?_eq_getElem hk
  rw[bZ]
  simp only[aZ,Int.toNat_natCast,bm,kN,aA,dh,bx]
  rw[w64 (n:=((k+1:Nat):Int)-1) (by omega) (by omega),aj (by omega),show(((k+1:Nat):Int)-1).toNat=k from by omega,az hp,az hg,Hw ht (cf ht),ag,w64 (by omega) (by omega),show((k+1:Nat):Int)+1=((k+1+1:Nat):Int) from by omega,List.drop_eq_getElem_cons hk,clF]
  cases hc:cfB n p l[k+1] with
  |true=>rw[ba,if_pos rfl,zQ ht l hl m (k+1) w (by omega) (by omega) _ hg]
  |false=>
   rw[jn,if_neg (by simp),aj (by simp;omega),zQ ht l hl m (k+1) _ (by omega) (by simp;omega) _ hg];simp
theorem D6 {n:Network} (ht:n.tot≤1048576) (l:List Scan):∀(m:Nat) (k:Int) (w:List Int),dZ G.real TE.real n l m k w=bZ G.real TE.real n l m k w
 |0,k,w=>by rw[dZ,bZ]
 |m+1,k,w=>by rw[dZ,bZ];simp only[D6 ht l m,Hw ht (cf ht),IP ht (cf ht)]
theorem Gf {n:Network} (ht:n.tot≤1048576) (l:List Scan) (hl:l.length≤1048576) (x:Int):j9 G.real TE.real n l x=some (tm n l x):=by
 have h2:=nN n l x
 unfold j9 tm
 simp only[aA,yZ ht l hl,ag,bx,cg]
 rw[aj (by omega)]
 cases hs:mC n l x with
 |nil=>rw[show ay 1 (([]:List Scan).length:Int)=0 from rfl,bZ];rfl
 |cons y m=>
  rw[hs] at h2
  have hc:ay 1 ((y::m).length:Int)=m.length:=by unfold ay;simp only[List.length_cons];omega
  rw[hc,show(1:Int)=((0+1:Nat):Int) from rfl,zQ ht (y::m) (by omega) m.length 0 [] (by simp;omega) (by simp) y rfl,ag]
  rfl
theorem IV {n:Network} (ht:n.tot≤1048576) (l:List Scan) (hl:l.length≤1048576) (x:Int):mN G.real TE.real n l x=some (tm n l x):=by
 rw[←Gf ht l hl x]
 unfold mN j9
 simp only[Ei ht l hl,yZ ht l hl,D6 ht]
def cnG (n:Network):Option Scan→List Scan→List Scan
 |_,[]=>[]
 |none,x::l=>x::cnG n (some x) l
 |some p,x::l=>if cfB n p x=true then x::cnG n (some x) l else cnG n (some p) l
def cnB (n:Network) (l:List Scan) (x:Int):List Scan:=cnG n none (mC n l x)
theorem oP (n:Network):∀(l:List Scan) (p:Option Scan),(cnG n p l).Sublist l
 |[],p=>by cases p<;>exact List.Sublist.refl _
 |x::l,none=>by rw[cnG];exact(oP n l (some x)).cons_cons x
 |x::l,some p=>by
  rw[cnG];split
  ·exact(oP n l (some x)).cons_cons x
  ·exact(oP n l (some p)).cons x
theorem sU (n:Network) (l:List Scan) (x:Int):(cnB n l x).length≤200:=Nat.le_trans (oP n _ _).length_le (nN n l x)
theorem uV (w:List Scan) (z:Scan):(w++[z]).getLast? =some z:=by simp
theorem wY {n:Network} (ht:n.tot≤1048576) (l:List Scan) (hl:l.length≤1048576):∀(m k:Nat) (w:List Scan),k+m=l.length→w.length≤k→dn G.real TE.real n l m (k:Int) w=some (w++cnG n w.getLast? (l.drop k))
 |0,k,w,h,_=>by rw[dn,List.drop_of_length_le (by omega)];cases w.getLast? <;>simp[cnG]
 |m+1,k,w,h,hw=>by
  have hk:k<l.length:=by omega
  rw[dn]
  simp only[aZ,Int.toNat_natCast,bm,kN,co,cg,aA,dh,bx]
  rw[az (List.getElem?_eq_getElem hk),w64 (n:=(k:Int)+1) (by omega) (by omega),show(k:Int)+1=((k+1:Nat):Int) from by omega,List.drop_eq_getElem_cons hk]
  by_cases h0:w=[]
  ·subst h0
   rw[show decide ((([]:List Scan).length:Int)=0)=true from rfl,ba,aj (by simp),wY ht l hl m (k+1) _ (by omega) (by simp),show([]:List Scan).getLast? =none from rfl,show cnG n none (l[k]::l.drop (k+1))=l[k]::cnG n (some l[k]) (l.drop (k+1)) from rfl]
   simp
  ·have hwl:0<w.length:=List.length_pos_iff.2 h0
   have hp:w[w.length-1]?=some (w[w.length-1]'(by omega)):=List.getElem?_eq_getElem (by omega)
   have hlast:w.getLast? =some (w[w.length-1]'(by omega)):=by rw[List.getLast?_eq_getElem?,hp]
   rw[ao,if_neg (by omega),w64 (by omega) (by omega),aj (by omega),show((w.length:Int)-1).toNat=w.length-1 from by omega,az hp,Hw ht (cf ht),ag,hlast,cnG]
   cases hc:cfB n (w[w.length-1]'(by omega)) l[k] with
   |true=>
    rw[ba,if_pos rfl,aj (by simp;omega),wY ht l hl m (k+1) _ (by omega) (by simp;omega),uV];simp
   |false=>rw[jn,if_neg (by simp),wY ht l hl m (k+1) _ (by omega) (by omega),hlast]
theorem wZ {n:Network} (ht:n.tot≤1048576) (l:List Scan) (hl:l.length≤1048576):∀(m k:Nat) (w:List Scan),k+m=l.length→w.length≤k→du G.real TE.real n l m (k:Int) w=some (w++cnG n w.getLast? (l.drop k))
 |0,k,w,h,_=>by rw[du,List.drop_of_length_le (by omega)];cases w.getLast? <;>simp[cnG]
 |m+1,k,w,h,hw=>by
  have hk:k<l.length:=by omega
  rw[du]
  simp only[aZ,Int.toNat_natCast,bm,kN,co,cg,aA,dh,bx]
  rw[w64 (n:=(k:Int)+1) (by omega) (by omega),show(k:Int)+1=((k+1:Nat):Int) from by omega,List.drop_eq_getElem_cons hk]
  by_cases h0:w=[]
  ·subst h0
   rw[show decide ((([]:List Scan).length:Int)=0)=true from rfl,ba,az (List.getElem?_eq_getElem hk),aj (by simp),wZ ht l hl m (k+1) _ (by omega) (by simp),show([]:List Scan).getLast? =none from rfl,show cnG n none (l[k]::l.drop (k+1))=l[k]::cnG n (some l[k]) (l.drop (k+1)) from rfl]
   simp
  ·have hwl:0<w.length:=List.length_pos_iff.2 h0
   have hp:w[w.length-1]?=some (w[w.length-1]'(by omega)):=List.getElem?_eq_getElem (by omega)
   have hlast:w.getLast? =some (w[w.length-1]'(by omega)):=by rw[List.getLast?_eq_getElem?,hp]
   rw[ao,if_neg (by omega),w64 (by omega) (by omega),aj (by omega),show((w.length:Int)-1).toNat=w.length-1 from by omega,az hp,az (List.getElem?_eq_getElem hk),IP ht (cf ht),ag,hlast,cnG]
   cases hc:cfB n (w[w.length-1]'(by omega)) l[k] with
   |true=>
    rw[ba,if_pos rfl,aj (by simp;omega),wZ ht l hl m (k+1) _ (by omega) (by simp;omega),uV];simp
   |false=>rw[jn,if_neg (by simp),wZ ht l hl m (k+1) _ (by omega) (by omega),hlast]
theorem Cv {n:Network} (ht:n.tot≤1048576) (l:List Scan) (hl:l.length≤1048576) (x:Int):hP G.real TE.real n l x=some (cnB n l x):=by
 have h2:=nN n l x
 unfold hP
 simp only[aA,yZ ht l hl,ag,bx,cg]
 have hc:ay 0 ((mC n l x).length:Int)=(mC n l x).length:=by unfold ay;omega
 rw[aj (by omega),hc,show(0:Int)=((0:Nat):Int) from rfl,wY ht _ (by omega) _ 0 [] (by omega) (by simp),ag]
 rfl
theorem FH {n:Network} (ht:n.tot≤1048576) (l:List Scan) (hl:l.length≤1048576) (x:Int):jd G.real TE.real n l x=some (cnB n l x):=by
 have h2:=nN n l x
 unfold jd
 simp only[aA,Ei ht l hl,ag,bx,cg]
 have hc:ay 0 ((mC n l x).length:Int)=(mC n l x).length:=by unfold ay;omega
 rw[aj (by omega),hc,show(0:Int)=((0:Nat):Int) from rfl,wZ ht _ (by omega) _ 0 [] (by omega) (by simp),ag]
 rfl
def z0S:Scan:=⟨0,0,0,.empty,⟨0,0⟩⟩
def opS:Option Scan→Scan×Bool
 |some s=>(s,true)
 |none=>(z0S,false)
def laB (n:Network) (l:List Scan) (x at_:Int):Scan×Bool:=opS ((cnB n l x).reverse.find? fun s=>decide (s.At≤at_))
def nxB (n:Network) (l:List Scan) (x at_:Int):Scan×Bool:=opS ((cnB n l x).find? fun s=>decide (at_<s.At))
theorem Ej (a:Int) (l:List Scan) (hl:l.length≤1048576):∀(k f:Nat),k≤l.length→k<f→ct G.real TE.real a l f ((k:Int)-1)=some (match (l.take k).reverse.find? fun s=>decide (s.At≤a) with|some s=>.ret (s,true)|none=>.out ())
 |0,f+1,_,_=>by rw[ct,kH,ao,if_neg (by omega)];rfl
 |k+1,f+1,h,hf=>by
  have hk:k<l.length:=by omega
  have hg:=List.getElem?_eq_getElem hk
  rw[ct]
  simp only[kH,aZ,bx,kN,dh,ao]
  rw[if_pos (by omega),show((k+1:Nat):Int)-1=(k:Int) by omega,aj (by omega),Int.toNat_natCast,az hg,w64 (by omega) (by omega),Ej a l hl k f (by omega) (by omega)]
  rw[List.take_add_one,hg,Option.toList_some,List.reverse_append,List.reverse_singleton,List.singleton_append,List.find?_cons]
  by_cases hc:l[k].At≤a
  ·rw[if_pos hc,aj (by omega),decide_eq_true hc]
  ·rw[if_neg hc,decide_eq_false hc]
theorem En (a:Int) (l:List Scan):∀(f:Nat) (v:Int),eu G.real TE.real a l f v=ct G.real TE.real a l f v
 |0,v=>by rw[eu,ct]
 |f+1,v=>by rw[eu,ct];simp only[En a l f]
theorem He {n:Network} (ht:n.tot≤1048576) (l:List Scan) (hl:l.length≤1048576) (x a:Int):iU G.real TE.real n l x a=some (laB n l x a):=by
 have h2:=sU n l x
 unfold iU
 rw[Cv ht l hl,ag]
 simp only[bx,cg,kN]
 rw[w64 (by omega) (by omega),Ej a _ (by omega) _ _ (Nat.le_refl _) (by omega),List.take_length,ag]
 unfold laB
 cases (cnB n l x).reverse.find? fun s=>decide (s.At≤a)<;>rfl
theorem Hj {n:Network} (ht:n.tot≤1048576) (l:List Scan) (hl:l.length≤1048576) (x a:Int):iO G.real TE.real n l x a=some (laB n l x a):=by
 rw[←He ht l hl x a]
 unfold iO iU
 rw[Cv ht l hl,FH ht l hl,ag,ag]
 simp only[En]
theorem EL (a:Int) (l:List Scan) (hl:l.length≤1048576):∀(m k:Nat),k+m=l.length→cv G.real TE.real a l m (k:Int)=some (match (l.drop k).find? fun s=>decide (a<s.At) with|some s=>.ret (s,true)|none=>.out ())
 |0,k,h=>by rw[cv,List.drop_of_length_le (by omega)];rfl
 |m+1,k,h=>by
  have hk:k<l.length:=by omega
  rw[cv]
  simp only[aZ,Int.toNat_natCast,bm,bv,dh,ao]
  rw[az (List.getElem?_eq_getElem hk),w64 (by omega) (by omega),show(k:Int)+1=((k+1:Nat):Int) from by omega,EL a l hl m (k+1) (by omega),List.drop_eq_getElem_cons hk,List.find?_cons]
  by_cases hc:a<l[k].At
  ·rw[if_pos hc,decide_eq_true hc]
  ·rw[if_neg hc,decide_eq_false hc]
theorem EK (a:Int) (l:List Scan):∀(f:Nat) (v:Int),en G.real TE.real a l f v=cv G.real TE.real a l f v
 |0,v=>by rw[en,cv]
 |f+1,v=>by rw[en,cv];simp only[EK a l f]
theorem GS {n:Network} (ht:n.tot≤1048576) (l:List Scan) (hl:l.length≤1048576) (x a:Int):iW G.real TE.real n l x a=some (nxB n l x a):=by
 have h2:=sU n l x
 unfold iW
 rw[Cv ht l hl,ag]
 simp only[bx,cg]
 have hc:ay 0 ((cnB n l x).length:Int)=(cnB n l x).length:=by unfold ay;omega
 rw[aj (by omega),hc,show(0:Int)=((0:Nat):Int) from rfl,EL a _ (by omega) _ _ (by omega),ag,List.drop_zero]
 unfold nxB
 cases (cnB n l x).find? fun s=>decide (a<s.At)<;>rfl
theorem G4 {n:Network} (ht:n.tot≤1048576) (l:List Scan) (hl:l.length≤1048576) (x a:Int):iV G.real TE.real n l x a=some (nxB n l x a):=by
 rw[←GS ht l hl x a]
 unfold iV iW
 rw[Cv ht l hl,FH ht l hl,ag,ag]
 simp only[EK]
end Go.Vs
namespace Go.Vs
open Go.IntWalk
theorem w8 (n:Network) (l:List Scan) (x:Int):iu (cnB n l x)≤iu l:=Nat.le_trans (qf (oP n _ _)) (zj n l x)
theorem Fg {l:List Scan} {s:Scan} (h:s∈l):s.tot≤iu l:=by
 have:=mz (fun y=>Scan.tot y) h
 unfold iu;omega
theorem AG {l:List Scan} {o:Option Scan} (h:∀s,o=some s→s∈l):(opS o).1.tot≤iu l:=by
 cases o with
 |none=>exact Nat.zero_le _
 |some s=>exact Fg (h s rfl)
theorem F9 (n:Network) (l:List Scan) (x a:Int):(laB n l x a).1.tot≤iu l:=by
 refine Nat.le_trans (AG (l:=cnB n l x) fun s h=>?_) (w8 n l x)
 have:=List.mem_of_find?_eq_some h
 simpa using this
theorem E3 (n:Network) (l:List Scan) (x a:Int):(nxB n l x a).1.tot≤iu l:=by
 refine Nat.le_trans (AG (l:=cnB n l x) fun s h=>?_) (w8 n l x)
 exact List.mem_of_find?_eq_some h
end Go.Vs
