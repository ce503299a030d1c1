/- Part of the proofs of this seat's laws: Net. No condition. -/
import Derived.Test.YticpmdigfdpmfaaVf
import Derived.Test.YticpmdigfdpmfaaVg
import Derived.Sort.Walk0
import Derived.Test.YticpmdigfdpmfaaHa
import Derived.Test.YticpmdigfdpmfaaLab
import Derived.Test.YticpmdigfdpmfaaLaa
import Derived.Test.YticpmdigfdpmfaaLac
import Derived.Lib.Bytealg
set_option linter.unusedVariables false
set_option linter.unusedSimpArgs false
set_option linter.unusedSectionVars false
namespace Go.Vs
open Go.IntWalk
theorem xn {a b:ByteArray} (h:bOf a=bOf b):a=b:=by
 have:=congrArg sOf h
 rwa [uP,uP] at this
instance memD (x:ByteArray):∀l:List ByteArray,Decidable (x∈l)
 |[]=>.isFalse (by simp)
 |y::l=>match decEq x y,memD x l with
  |.isTrue h,_=>.isTrue (by simp[h])
  |.isFalse h,.isTrue h2=>.isTrue (by simp[h2])
  |.isFalse h,.isFalse h2=>.isFalse (by simp[h,h2])
theorem kW (a b:ByteArray):G.real.seq a b=decide (a=b):=by
 rw[Bh,Lib.toList_data,Lib.toList_data]
 by_cases h:a=b
 ·subst h;simp
 ·have:¬a.data.toList=b.data.toList:=fun e=>h (xn e)
  rw[decide_eq_false h]
  exact beq_false_of_ne this
def bLt (a b:ByteArray):Prop:=bOf a<bOf b
instance (a b:ByteArray):Decidable (bLt a b):=inferInstanceAs (Decidable (bOf a<bOf b))
theorem zF (a b:ByteArray):G.real.slt a b=decide (bLt a b):=by
 show Op.bytesLess a.toList b.toList=_
 rw[Go.Proofs.bytesLess_eq,Lib.toList_data,Lib.toList_data]
 rfl
theorem kA (a:ByteArray):¬bLt a a:=List.lt_irrefl _
theorem qD {a b c:ByteArray} (h1:bLt a b) (h2:bLt b c):bLt a c:=List.lt_trans h1 h2
theorem va (a b:ByteArray):bLt a b∨a=b∨bLt b a:=by
 by_cases h1:bLt a b
 ·exact .inl h1
 ·by_cases h2:bLt b a
  ·exact .inr (.inr h2)
  ·refine .inr (.inl (xn ?_))
   exact List.le_antisymm (fun h=>h2 h) (fun h=>h1 h)
theorem oA:∀{l m:List ByteArray},l.Pairwise bLt→m.Pairwise bLt→(∀x,x∈l↔x∈m)→l=m
 |[],[],_,_,_=>rfl
 |[],y::m,_,_,h=>by have:=(h y).2 (by simp);simp at this
 |x::l,[],_,_,h=>by have:=(h x).1 (by simp);simp at this
 |x::l,y::m,hl,hm,h=>by
  obtain⟨l1,l2⟩:=List.pairwise_cons.1 hl
  obtain⟨m1,m2⟩:=List.pairwise_cons.1 hm
  have hxy:x=y:=by
   have hx:=(h x).1 (by simp)
   have hy:=(h y).2 (by simp)
   rcases List.mem_cons.1 hx with e|hx
   ·exact e
   ·rcases List.mem_cons.1 hy with e|hy
    ·exact e.symm
    ·exact absurd (qD (l1 _ hy) (m1 _ hx)) (kA _)
  subst hxy
  congr 1
  refine oA l2 m2 fun z=>?_
  have hz:=h z
  simp only[List.mem_cons] at hz
  constructor
  ·intro hzl
   rcases hz.1 (.inr hzl) with e|e
   ·subst e;exact absurd (l1 _ hzl) (kA _)
   ·exact e
  ·intro hzm
   rcases hz.2 (.inr hzm) with e|e
   ·subst e;exact absurd (m1 _ hzm) (kA _)
   ·exact e
theorem rP (l:List ByteArray) (z:ByteArray):z∈ku l↔z∈l:=by
 have h:(ku l).Perm ((l.map bOf).map sOf):=(List.mergeSort_perm _ _).map sOf
 rw[h.mem_iff,List.map_map]
 simp only[List.mem_map,Function.comp]
 constructor
 ·rintro⟨a,ha,rfl⟩;exact ha
 ·intro hz;exact⟨z,hz,rfl⟩
theorem rK (l:List ByteArray):(ku l).length=l.length:=by unfold ku;rw[List.length_map,List.length_mergeSort,List.length_map]
theorem mL {l:List ByteArray} (hn:l.Nodup):(ku l).Pairwise bLt:=by
 have hp:(ku l).Perm l:=by
  have:=(List.mergeSort_perm (l.map bOf) fun x y=>decide (x≤y)).map sOf
  rw[List.map_map] at this
  have e:l.map (sOf∘bOf)=l:=by
   conv=>rhs;rw[←List.map_id l]
   rfl
  rw[e] at this
  exact this
 have hnd:(ku l).Nodup:=hp.nodup_iff.2 hn
 have hs:((l.map bOf).mergeSort fun x y=>decide (x≤y)).Pairwise fun a b=>(decide (a≤b))=true:=by
  refine List.pairwise_mergeSort (fun a b c h1 h2=>?_) (fun a b=>?_) _
  ·simp only[decide_eq_true_eq] at h1 h2 ⊢;exact List.le_trans h1 h2
  ·simp only[Bool.or_eq_true,decide_eq_true_eq];exact List.le_total a b
 have hs2:(ku l).Pairwise fun a b=>bOf a≤bOf b:=by
  unfold ku
  rw[List.pairwise_map]
  exact hs.imp fun h=>by simpa [y5] using h
 refine(hs2.and hnd).imp fun⟨h1,h2⟩=>?_
 rcases va _ _ with h|h|h
 ·exact h
 ·exact absurd h h2
 ·exact absurd h (fun hh=>h1 hh)
def ddp:List ByteArray→List ByteArray
 |[]=>[]
 |x::l=>if x∈l then ddp l else x::ddp l
theorem nL:∀(l:List ByteArray) (z:ByteArray),z∈ddp l↔z∈l
 |[],z=>by simp[ddp]
 |x::l,z=>by
  unfold ddp
  split
  ·rename_i h
   rw[nL l z,List.mem_cons]
   exact⟨.inr,fun hh=>hh.elim (fun e=>e▸h) id⟩
  ·rw[List.mem_cons,List.mem_cons,nL l z]
theorem mz:∀l:List ByteArray,(ddp l).Nodup
 |[]=>by simp[ddp]
 |x::l=>by
  unfold ddp
  split
  ·exact mz l
  ·rename_i h
   exact List.nodup_cons.2 ⟨by rw[nL];exact h,mz l⟩
def t8 (l:List ByteArray):List ByteArray:=ku (ddp l)
theorem sL (l:List ByteArray) (z:ByteArray):z∈t8 l↔z∈l:=by
 unfold t8
 rw[rP,nL]
theorem rM (l:List ByteArray):(t8 l).Pairwise bLt:=mL (mz l)
theorem uN {l m:List ByteArray} (h:m.Pairwise bLt) (hm:∀x,x∈m↔x∈l):m=t8 l:=oA h (rM l) fun x=>by rw[hm,sL]
theorem uW:∀l:List ByteArray,(ddp l).length≤l.length
 |[]=>by simp[ddp]
 |x::l=>by
  have:=uW l
  unfold ddp
  split<;>simp<;>omega
theorem xV (l:List ByteArray):(t8 l).length≤l.length:=by unfold t8;rw[rK];exact uW l
def ixN:List ByteArray→ByteArray→Nat
 |[],_=>0
 |x::l,s=>if x=s then 0 else ixN l s+1
theorem cz:∀{l:List ByteArray} {s:ByteArray},s∈l→ixN l s<l.length∧l[ixN l s]?=some s
 |x::l,s,h=>by
  unfold ixN
  split
  ·rename_i e;subst e;simp
  ·rename_i e
   have h2:=cz ((List.mem_cons.1 h).resolve_left (fun hh=>e hh.symm))
   simpa using h2
def ix (l:List ByteArray) (s:ByteArray):Int:=if s∈l then(ixN l s:Int) else-1
theorem oC {l:List ByteArray} {s:ByteArray}:ix l s<0↔s∉l:=by
 unfold ix;split<;>simp_all
theorem fX {l:List ByteArray} {s:ByteArray} (h:s∈l):ix l s=(ixN l s:Int):=by unfold ix;rw[if_pos h]
end Go.Vs
namespace Go.Vs
open Go.IntWalk
theorem jt (a b c:Int):ct G.real TE.real a b c=decide (b≤a∧a≤c):=by
 unfold ct
 simp only[nt,df]
 by_cases h1:b≤a
 ·by_cases h2:a≤c
  ·simp[h1,h2]
  ·simp[h1,h2]
 ·simp[h1]
theorem my (a b c:Int):ek G.real TE.real a b c=decide (b≤a∧a≤c):=by
 unfold ek
 simp only[nt,df]
 by_cases h1:b≤a
 ·by_cases h2:a≤c
  ·simp[h1,h2]
  ·simp[h1,h2]
 ·simp[h1]
theorem xd (a:ByteArray) (k:Int):0≤G.real.byte a k∧G.real.byte a k≤255:=by
 have e:G.real.byte a k=((a.data.getD k.toNat 0).toNat:Int):=rfl
 have:=(a.data.getD k.toNat 0).toNat_lt
 rw[e]
 omega
def okB (a:ByteArray):Nat→Nat→Bool
 |0,_=>true
 |n+1,k=>decide (65≤G.real.byte a (k:Int)∧G.real.byte a (k:Int)≤90)&&okB a n (k+1)
theorem qH (a:ByteArray) (ha:a.size≤1048576):∀(n k:Nat),k+n=a.size→cP G.real TE.real a n (k:Int)=if okB a n k=true then .out () else .ret false
 |0,k,_=>by rw[cP];rfl
 |n+1,k,h=>by
  rw[cP,okB]
  simp only[df,bG,am]
  rw[w64 (by omega) (by omega),show(k:Int)+1=((k+1:Nat):Int) from by omega,qH a ha n (k+1) (by omega)]
  by_cases h1:G.real.byte a (k:Int)<65
  ·rw[if_pos h1,if_neg]
   simp only[Bool.and_eq_true,decide_eq_true_eq];omega
  ·rw[if_neg h1]
   by_cases h2:90<G.real.byte a (k:Int)
   ·rw[if_pos h2,if_neg]
    simp only[Bool.and_eq_true,decide_eq_true_eq];omega
   ·rw[if_neg h2]
    have:decide (65≤G.real.byte a (k:Int)∧G.real.byte a (k:Int)≤90)=true:=by simp only[decide_eq_true_eq];omega
    rw[this,Bool.true_and]
theorem qL (a:ByteArray) (ha:a.size≤1048576):∀(n k:Nat),k+n≤a.size→cJ G.real TE.real a n (k:Int)=some (if okB a n k=true then .out () else .ret false)
 |0,k,_=>by rw[cJ];rfl
 |n+1,k,h=>by
  have hb:=xd a (k:Int)
  rw[cJ,okB]
  simp only[bG,aZ]
  rw[ah (by omega),w64 (n:=G.real.byte a (k:Int)) (by omega) (by omega),my,am,w64 (by omega) (by omega),show(k:Int)+1=((k+1:Nat):Int) from by omega,qL a ha n (k+1) (by omega)]
  by_cases h1:65≤G.real.byte a (k:Int)∧G.real.byte a (k:Int)≤90
  ·rw[if_pos h1]
   simp[h1]
  ·rw[if_neg h1]
   simp only[h1,decide_false,Bool.false_and,Bool.false_eq_true,if_false]
theorem rJ (a:ByteArray) (ha:a.size≤1048576):∃r,ge G.real TE.real a=some r∧gf G.real TE.real a=some r∧(r=true→a.size=3):=by
 have cn:∀n:Nat,aS 0 (n:Int)=n:=fun n=>by unfold aS;omega
 unfold ge gf
 simp only[gH,Aj,aZ,gR,am]
 rw[ah (by omega),cn,show(0:Int)=((0:Nat):Int) from rfl,qH a ha a.size 0 (by omega)]
 have e3:(3:Int)=((3:Nat):Int):=rfl
 by_cases h3:a.size=3
 ·have s3:=qL a ha 3 0 (by omega)
  cases hok:okB a a.size 0 with
  |true=>
   rw[h3] at hok
   rw[if_pos (c:=(true=true)) rfl,if_pos (c:=((a.size:Int)=3)) (by omega),e3,show aS ((0:Nat):Int) ((3:Nat):Int)=3 from rfl,s3,ag,hok]
   exact⟨true,by simp[h3],rfl,fun _=>h3⟩
  |false=>
   rw[h3] at hok
   rw[if_neg (c:=(false=true)) (by simp),if_pos (c:=((a.size:Int)=3)) (by omega),e3,show aS ((0:Nat):Int) ((3:Nat):Int)=3 from rfl,s3,ag,hok]
   exact⟨false,rfl,rfl,fun h=>by cases h⟩
 ·rw[if_neg (c:=((a.size:Int)=3)) (by omega)]
  refine⟨false,?_,rfl,fun h=>by cases h⟩
  split
  ·rw[iI];congr 1;simp only[decide_eq_false_iff_not];omega
  ·rfl
structure LegOk (l:Leg):Prop where
 start:0≤l.Start∧l.Start≤1439
 takes:1≤l.Takes∧l.Takes≤4320
 days:1≤l.Days∧l.Days≤127
 room:0≤l.Room∧l.Room≤1000000
 from3:l.From.size=3
 to3:l.To.size=3
 ne:l.From≠l.To
theorem zU (l:Leg) (hl:l.tot≤1048576):∃r,lq G.real TE.real l=some r∧lg G.real TE.real l=some r∧(r=true→LegOk l):=by
 unfold Leg.tot at hl
 obtain⟨r1,a1,a2,a3⟩:=rJ l.From (by omega)
 obtain⟨r2,b1,b2,b3⟩:=rJ l.To (by omega)
 unfold lq lg
 rw[a1,a2,b1,b2]
 simp only[ag,aZ,jt,my,am,kW]
 cases r1 with
 |false=>exact⟨false,rfl,rfl,fun h=>by cases h⟩
 |true=>
  cases r2 with
  |false=>exact⟨false,rfl,rfl,fun h=>by cases h⟩
  |true=>
   rw[fr,fr]
   by_cases c0:l.From=l.To
   ·rw[if_pos c0];exact⟨false,rfl,rfl,fun h=>by cases h⟩
   ·rw[if_neg c0]
    by_cases d1:0≤l.Start∧l.Start≤1439
    ·rw[if_pos d1]
     by_cases d2:1≤l.Takes∧l.Takes≤4320
     ·rw[if_pos d2]
      by_cases d3:1≤l.Days∧l.Days≤127
      ·rw[if_pos d3];exact⟨_,rfl,rfl,fun h=>⟨d1,d2,d3,by simpa using h,a3 rfl,b3 rfl,c0⟩⟩
      ·rw[if_neg d3];exact⟨false,rfl,rfl,fun h=>by cases h⟩
     ·rw[if_neg d2];exact⟨false,rfl,rfl,fun h=>by cases h⟩
    ·rw[if_neg d1];exact⟨false,rfl,rfl,fun h=>by cases h⟩
theorem xw:∀(l:List Leg),(∀x∈l,Leg.tot x≤1048576)→∃o,bO G.real TE.real l=some o∧bL G.real TE.real l=some o∧(o=.ret false∨(o=.out ()∧∀x∈l,LegOk x))
 |[],_=>by rw[bO,bL];exact⟨_,rfl,rfl,Or.inr ⟨rfl,by simp⟩⟩
 |z::l,h=>by
  obtain⟨r,a1,a2,a3⟩:=zU z (h z (by simp))
  obtain⟨o,b1,b2,b3⟩:=xw l fun x hx=>h x (by simp[hx])
  rw[bO,bL,a1,a2,ag,ag]
  cases r with
  |true=>
   rw[fr,fr,b1,b2]
   refine⟨o,rfl,rfl,?_⟩
   rcases b3 with b3|⟨b3,b4⟩
   ·exact Or.inl b3
   ·refine Or.inr ⟨b3,fun x hx=>?_⟩
    rcases List.mem_cons.1 hx with rfl|hx
    ·exact a3 rfl
    ·exact b4 x hx
  |false=>exact⟨_,rfl,rfl,Or.inl rfl⟩
theorem wL (n:Network) (hn:n.Off.length≤1048576):∀(l:List Int) (k:Nat),n.Off.drop k=l→∃o,bu G.real TE.real n l (k:Int)=some o∧bt G.real TE.real n l (k:Int)=some o∧(o=.ret false∨o=.out ())
 |[],k,_=>by rw[bu,bt];exact⟨_,rfl,rfl,Or.inr rfl⟩
 |z::l,k,h=>by
  have hk:k<n.Off.length:=by
   have:=congrArg List.length h
   simp at this;omega
  have ht:n.Off.drop (k+1)=l:=by
   have:=congrArg List.tail h
   simpa using this
  obtain⟨o,b1,b2,b3⟩:=wL n hn l (k+1) ht
  rw[bu,bt]
  simp only[aZ,jt,my,am,df,ir,bG,nt,cw]
  rw[w64 (n:=(k:Int)+1) (by omega) (by omega),show(k:Int)+1=((k+1:Nat):Int) from by omega,b1,b2]
  by_cases c1:0≤z∧z≤60
  ·rw[if_pos c1]
   by_cases c2:(0:Int)<k
   ·rw[if_pos c2,w64 (n:=(k:Int)-1) (by omega) (by omega),ah (by omega),show((k:Int)-1).toNat=k-1 from by omega,ar (List.getElem?_eq_getElem (show k-1<n.Off.length by omega))]
    split
    ·exact⟨_,rfl,rfl,Or.inl rfl⟩
    ·exact⟨o,rfl,rfl,b3⟩
   ·rw[if_neg c2];exact⟨o,rfl,rfl,b3⟩
  ·rw[if_neg c1];exact⟨_,rfl,rfl,Or.inl rfl⟩
structure NetOk (n:Network):Prop where
 len:n.Legs.length≤20
 legs:∀x∈n.Legs,LegOk x
 change:0≤n.Change∧n.Change≤240
theorem tZ (n:Network) (h:n.tot≤1048576):∃r,di G.real TE.real n=some r∧dC G.real TE.real n=some r∧(r=true→NetOk n):=by
 have h2:=h
 unfold Network.tot at h2
 obtain⟨o,a1,a2,a3⟩:=xw n.Legs fun x hx=>by have h3:Leg.tot x≤v7 (fun y=>Leg.tot y) n.Legs:=yB (fun y=>Leg.tot y) hx;omega
 obtain⟨p,b1,b2,b3⟩:=wL n (by omega) n.Off 0 rfl
 unfold di dC
 rw[show(0:Int)=((0:Nat):Int) from rfl,a1,a2,b1,b2]
 simp only[ag,aZ,jt,my,nt,am,nR,xm]
 rcases a3 with rfl|⟨rfl,a4⟩
 ·exact⟨false,rfl,rfl,fun h=>by cases h⟩
 ·rcases b3 with rfl|rfl
  ·exact⟨false,rfl,rfl,fun h=>by cases h⟩
  ·simp only[iI]
   by_cases c1:(n.Legs.length:Int)≤20
   ·rw[if_pos c1]
    split
    ·exact⟨_,rfl,rfl,fun h=>⟨by omega,a4,by simpa using h⟩⟩
    ·exact⟨false,rfl,rfl,fun h=>by cases h⟩
   ·rw[if_neg c1];exact⟨false,rfl,rfl,fun h=>by cases h⟩
def jx (n:Network):Bool:=(dC G.real TE.real n).getD false
theorem ym {n:Network} (h:n.tot≤1048576):di G.real TE.real n=some (jx n):=by
 obtain⟨r,a1,a2,_⟩:=tZ n h
 rw[a1];unfold jx;rw[a2];rfl
theorem Bb {n:Network} (h:n.tot≤1048576):dC G.real TE.real n=some (jx n):=by
 obtain⟨r,a1,a2,_⟩:=tZ n h
 unfold jx;rw[a2];rfl
theorem rt {n:Network} (h:n.tot≤1048576) (hb:jx n=true):NetOk n:=by
 obtain⟨r,a1,a2,a3⟩:=tZ n h
 refine a3 ?_
 unfold jx at hb;rw[a2] at hb;exact hb
def dW (n:Network) (l:Int):Leg:=n.Legs.getD l.toNat ⟨.empty,.empty,0,0,0,0⟩
theorem eX {n:Network} {l:Int} (h0:0≤l) (h1:l<n.Legs.length):n.Legs[l.toNat]?=some (dW n l):=by
 unfold dW
 rw[List.getD_eq_getElem?_getD,List.getElem?_eq_getElem (by omega)]
 rfl
theorem kQ {n:Network} {l:Int} (h0:0≤l) (h1:l<n.Legs.length):dW n l∈n.Legs:=List.mem_of_getElem? (eX h0 h1)
end Go.Vs
namespace Go.Vs
open Go.IntWalk
theorem A3 (a:Int):G.real.band .i64 a 1=0∨G.real.band .i64 a 1=1:=by
 have h:(BitVec.ofInt 64 a&&& BitVec.ofInt 64 1).toNat≤1:=by
  rw[BitVec.toNat_and]
  exact Nat.le_trans Nat.and_le_right (by decide)
 have e:G.real.band .i64 a 1=(((BitVec.ofInt 64 a&&& BitVec.ofInt 64 1).toNat:Nat):Int):=w64 (n:=(((BitVec.ofInt 64 a&&& BitVec.ofInt 64 1).toNat:Nat):Int)) (by omega) (by omega)
 rw[e]
 omega
theorem yT (a:Int) (l:List Int):eJ G.real TE.real a l=if a∈l then .ret false else .out ():=by
 induction l with
 |nil=>rw[eJ];simp
 |cons z l ih=>
  rw[eJ,ih]
  simp only[gR,am]
  by_cases h:z=a
  ·rw[if_pos h,if_pos (by simp[h])]
  ·rw[if_neg h]
   by_cases h2:a∈l
   ·rw[if_pos h2,if_pos (by simp[h2])]
   ·rw[if_neg h2,if_neg (by simp[h2];exact fun e=>h e.symm)]
theorem z5 (a:Int) (l:List Int):dM G.real TE.real a l=if a∈l then .ret true else .out ():=by
 induction l with
 |nil=>rw[dM];simp
 |cons z l ih=>
  rw[dM,ih]
  simp only[gR,am]
  by_cases h:z=a
  ·rw[if_pos h,if_pos (by simp[h])]
  ·rw[if_neg h]
   by_cases h2:a∈l
   ·rw[if_pos h2,if_pos (by simp[h2])]
   ·rw[if_neg h2,if_neg (by simp[h2];exact fun e=>h e.symm)]
theorem qX (n:Network) (h:n.Legs.length≤1048576) (a b:Int):∃r,jh G.real TE.real n a b=some r∧eQ G.real TE.real n a b=some r∧(r=true→0≤a∧a<n.Legs.length∧0≤b∧b≤60):=by
 unfold jh eQ nE
 simp only[aZ,df,nt,ir,nR,jt,my,am,yT,z5,cw,gR,wM]
 rw[w64 (n:=(n.Legs.length:Int)-1) (by omega) (by omega)]
 by_cases c1:a<0
 ·rw[if_pos c1,if_neg (by omega)];exact⟨false,rfl,rfl,fun h=>by cases h⟩
 ·rw[if_neg c1]
  by_cases c2:(n.Legs.length:Int)≤a
  ·rw[if_pos c2,if_neg (by omega)];exact⟨false,rfl,rfl,fun h=>by cases h⟩
  ·rw[if_neg c2,if_pos (c:=0≤a∧a≤(n.Legs.length:Int)-1) (by omega)]
   by_cases c3:0≤b∧b≤60
   ·have hx:n.Legs[a.toNat]?=some n.Legs[a.toNat]:=List.getElem?_eq_getElem (by omega)
    have hr:0≤b.tmod 7:=Int.tmod_nonneg _ c3.1
    rw[if_pos c3,if_pos c3,ah (by omega),ah (by omega),ar hx,ar hx,ah hr,ah hr]
    rcases A3 (G.real.shr .i64 n.Legs[a.toNat].Days (b.tmod 7)) with e|e
    ·rw[e,if_pos rfl,if_neg (by decide)];exact⟨false,rfl,rfl,fun h=>by cases h⟩
    ·rw[e,if_neg (by decide),if_pos rfl]
     by_cases c4:b∈n.Off
     ·rw[if_pos c4,if_pos c4];exact⟨false,rfl,rfl,fun h=>by cases h⟩
     ·rw[if_neg c4,if_neg c4];exact⟨true,rfl,rfl,fun _=>by omega⟩
   ·rw[if_neg c3,if_neg c3];exact⟨false,rfl,rfl,fun h=>by cases h⟩
def runsB (n:Network) (a b:Int):Bool:=(eQ G.real TE.real n a b).getD false
theorem tN {n:Network} (h:n.Legs.length≤1048576) (a b:Int):jh G.real TE.real n a b=some (runsB n a b):=by
 obtain⟨r,a1,a2,_⟩:=qX n h a b
 rw[a1];unfold runsB;rw[a2];rfl
theorem tR {n:Network} (h:n.Legs.length≤1048576) (a b:Int):eQ G.real TE.real n a b=some (runsB n a b):=by
 obtain⟨r,a1,a2,_⟩:=qX n h a b
 unfold runsB;rw[a2];rfl
theorem ee {n:Network} (h:n.Legs.length≤1048576) {a b:Int} (hb:runsB n a b=true):0≤a∧a<n.Legs.length∧0≤b∧b≤60:=by
 obtain⟨r,a1,a2,a3⟩:=qX n h a b
 refine a3 ?_
 unfold runsB at hb;rw[a2] at hb;exact hb
theorem kZ {n:Network} (h:n.tot≤1048576):n.Legs.length≤1048576:=by unfold Network.tot at h;omega
def ut (n:Network) (q:Trip):Bool:=jx n&&runsB n q.Leg q.Day
theorem z7 {n:Network} (h:n.tot≤1048576) (q:Trip):ig G.real TE.real n q=some (ut n q):=by
 unfold ig lx ut
 rw[ym h,tN (kZ h)]
 cases jx n<;>rfl
def stN (n:Network) (l d:Int):Int:=d*1440+(dW n l).Start
def enN (n:Network) (l d:Int):Int:=stN n l d+(dW n l).Takes
theorem nU {n:Network} (hn:NetOk n) {l d:Int} (h0:0≤l) (h1:l<n.Legs.length) (h2:0≤d) (h3:d≤60):d*1440≤stN n l d∧stN n l d≤87839∧stN n l d<enN n l d∧enN n l d≤92159:=by
 have:=hn.legs _ (kQ h0 h1)
 have h4:=this.start
 have h5:=this.takes
 unfold enN stN
 omega
theorem rb {n:Network} (hn:NetOk n) {l d:Int} (h0:0≤l) (h1:l<n.Legs.length) (h2:0≤d) (h3:d≤60):go G.real TE.real n ⟨l,d⟩=some (stN n l d):=by
 have hr:=nU hn h0 h1 h2 h3
 unfold go
 simp only[cw,bG,lK]
 rw[ah h0,ar (eX h0 h1),w64 (n:=d*1440) (by omega) (by omega),w64 (by unfold stN at hr;omega) (by unfold stN at hr;omega)]
 rfl
theorem uJ {n:Network} (hn:NetOk n) {l d:Int} (h0:0≤l) (h1:l<n.Legs.length) (h2:0≤d) (h3:d≤60):dL G.real TE.real n ⟨l,d⟩=some (stN n l d):=by
 have hr:=nU hn h0 h1 h2 h3
 unfold dL
 simp only[cw,bG,lK]
 rw[ah h0,ar (eX h0 h1),w64 (n:=d*1440) (by omega) (by omega),w64 (by unfold stN at hr;omega) (by unfold stN at hr;omega)]
 rfl
theorem zH {n:Network} (hn:NetOk n) {l d:Int} (h0:0≤l) (h1:l<n.Legs.length) (h2:0≤d) (h3:d≤60):i6 G.real TE.real n ⟨l,d⟩=some (enN n l d):=by
 have hr:=nU hn h0 h1 h2 h3
 unfold i6
 rw[rb hn h0 h1 h2 h3,ag]
 simp only[cw,bG]
 rw[ah h0,ar (eX h0 h1),w64 (by unfold enN at hr;omega) (by unfold enN at hr;omega)]
 rfl
theorem zO {n:Network} (hn:NetOk n) {l d:Int} (h0:0≤l) (h1:l<n.Legs.length) (h2:0≤d) (h3:d≤60):ip G.real TE.real n ⟨l,d⟩=some (enN n l d):=by
 have hr:=nU hn h0 h1 h2 h3
 unfold ip
 rw[uJ hn h0 h1 h2 h3,ag]
 simp only[cw,bG]
 rw[ah h0,ar (eX h0 h1),w64 (by unfold enN at hr;omega) (by unfold enN at hr;omega)]
 rfl
end Go.Vs
namespace Go.Vs
open Go.IntWalk
theorem sI (w:List ByteArray) (x:ByteArray):G.real.hasS w x=true↔x∈w:=by
 have e:G.real.hasS w x=hasL w x:=rfl
 rw[e]
 unfold hasL
 simp
theorem w5 (w:List ByteArray) (x z:ByteArray):z∈G.real.putS w x↔z∈w∨z=x:=by
 have ep:G.real.putS w x=putL w x:=rfl
 rw[ep]
 unfold putL
 split
 ·rename_i h
  exact⟨.inl,fun hh=>hh.elim id (fun e=>e▸h)⟩
 ·simp
theorem t6 (a b:ByteArray):∀(n k:Nat) (w3 w4:List ByteArray),k+n=2→w4.length+n≤5000000→(∀p,p∈w3↔p∈w4)→w4.Nodup→
 ∃u3 u4,bK G.real TE.real [a,b] n (k:Int) w3 w4=some (u3,u4)∧(∀p,p∈u3↔p∈u4)∧u4.Nodup∧u4.length≤w4.length+n∧∀p,p∈u4↔p∈w4∨p∈[a,b].drop k
 |0,k,w3,w4,hk,_,h,hn=>by
  rw[bK]
  exact⟨w3,w4,rfl,h,hn,by omega,fun p=>by rw[List.drop_of_length_le (by simp;omega)];simp⟩
 |n+1,k,w3,w4,hk,hl,h,hn=>by
  have hkl:k<[a,b].length:=by simp;omega
  have hx:[a,b][k]?=some ([a,b][k]'hkl):=List.getElem?_eq_getElem hkl
  have hd:=List.drop_eq_getElem_cons hkl
  generalize [a,b][k]'hkl=x at hx hd
  rw[bK]
  simp only[cw,Int.toNat_natCast,aZ,bG]
  rw[ar hx,w64 (by omega) (by omega),show(k:Int)+1=((k+1:Nat):Int) from by omega]
  cases hb:G.real.hasS w3 x with
  |true=>
   have hm:=(sI _ _).1 hb
   rw[fr]
   obtain⟨u3,u4,e1,e2,e5,e3,e4⟩:=t6 a b n (k+1) w3 w4 (by omega) (by omega) h hn
   refine⟨u3,u4,e1,e2,e5,by omega,fun p=>?_⟩
   rw[e4,hd]
   simp only[List.mem_cons]
   constructor
   ·rintro(q|q)
    ·exact .inl q
    ·exact .inr (.inr q)
   ·rintro(q|rfl|q)
    ·exact .inl q
    ·exact .inl ((h _).1 hm)
    ·exact .inr q
  |false=>
   have hm:x∉w3:=fun hh=>by rw[(sI _ _).2 hh] at hb;cases hb
   rw[oa,ah (by simp only[List.length_cons,List.length_nil];omega)]
   obtain⟨u3,u4,e1,e2,e5,e3,e4⟩:=t6 a b n (k+1) (G.real.putS w3 x) (w4++[x]) (by omega) (by simp;omega) (fun p=>by
    rw[w5];simp[h p]) (by
    rw[List.nodup_append]
    refine⟨hn,by simp,fun y hy z hz=>?_⟩
    simp only[List.mem_singleton] at hz
    subst hz
    intro e;subst e
    exact hm ((h _).2 hy))
   refine⟨u3,u4,e1,e2,e5,by simp at e3;omega,fun p=>?_⟩
   rw[e4,hd]
   simp only[List.mem_append,List.mem_cons,List.not_mem_nil,or_false]
   constructor
   ·rintro((q|q)|q)
    ·exact .inl q
    ·exact .inr (.inl q)
    ·exact .inr (.inr q)
   ·rintro(q|q|q)
    ·exact .inl (.inl q)
    ·exact .inl (.inr q)
    ·exact .inr q
def oK (l:List Leg):List ByteArray:=l.flatMap fun x=>[x.From,x.To]
theorem pZ (l:List Leg) (p:ByteArray):p∈oK l↔∃x∈l,p=x.From∨p=x.To:=by
 unfold oK
 simp[List.mem_flatMap]
theorem xq:∀(l:List Leg) (w1 w2:List ByteArray),w2.length+2*l.length≤4194304→(∀p,p∈w1↔p∈w2)→w2.Nodup→
 ∃u,bZ G.real TE.real l w1 w2=some u∧u.Nodup∧u.length≤w2.length+2*l.length∧∀p,p∈u↔p∈w2∨p∈oK l
 |[],w1,w2,_,_,hn=>by rw[bZ];exact⟨w2,rfl,hn,by simp,by simp[oK]⟩
 |z::l,w1,w2,hl,h,hn=>by
  simp only[List.length_cons] at hl
  obtain⟨u3,u4,e1,e2,e5,e3,e4⟩:=t6 z.From z.To 2 0 w1 w2 rfl (by omega) h hn
  obtain⟨u,f1,f4,f2,f3⟩:=xq l u3 u4 (by omega) e2 e5
  rw[bZ]
  simp only[gH,gF,List.length_cons,List.length_nil,lP]
  rw[ah (by omega),show aS 0 (((0+1+1:Nat)):Int)=2 from rfl,show(0:Int)=((0:Nat):Int) from rfl,e1,ag]
  refine⟨u,f1,f4,by omega,fun p=>?_⟩
  rw[f3,e4]
  simp only[oK,List.flatMap_cons,List.mem_append,List.drop_zero,List.mem_cons,List.not_mem_nil,or_false,or_assoc]
def plc (n:Network):List ByteArray:=t8 (oK n.Legs)
theorem xy {n:Network} (h:n.Legs.length≤1048576):fv G.real TE.real n=some (plc n):=by
 obtain⟨u,e1,e4,e2,e3⟩:=xq n.Legs [] [] (by simp;omega) (by simp) (by simp)
 simp only[List.length_nil] at e2
 unfold fv
 rw[aZ,e1,ag]
 unfold gr
 rw[ah (by omega),ag,ah (rK u)]
 congr 1
 refine uN (mL e4) fun x=>?_
 rw[rP,e3]
 simp
def aU (p:ByteArray):List ByteArray→Nat
 |[]=>0
 |x::l=>if bLt x p then aU p l+1 else 0
theorem uk (p:ByteArray):∀l,aU p l≤l.length
 |[]=>by simp[aU]
 |x::l=>by
  have:=uk p l
  unfold aU
  split<;>simp<;>omega
theorem qf (p:ByteArray):∀l:List ByteArray,∀z∈l.take (aU p l),bLt z p
 |[],z,h=>by simp at h
 |x::l,z,h=>by
  unfold aU at h
  split at h
  ·rename_i hx
   simp only[List.take_succ_cons,List.mem_cons] at h
   rcases h with rfl|h
   ·exact hx
   ·exact qf p l z h
  ·simp at h
theorem mp (p:ByteArray):∀{l:List ByteArray},l.Pairwise bLt→∀z∈l.drop (aU p l),¬bLt z p
 |[],_,z,h=>by simp at h
 |x::l,hs,z,h=>by
  obtain⟨h1,h2⟩:=List.pairwise_cons.1 hs
  unfold aU at h
  split at h
  ·exact mp p h2 z (by simpa using h)
  ·rename_i hx
   simp only[List.drop_zero,List.mem_cons] at h
   rcases h with rfl|h
   ·exact hx
   ·exact fun hz=>hx (qD (h1 _ h) hz)
def nQ (l:List ByteArray) (p:ByteArray):List ByteArray:=if l[aU p l]?=some p then l else l.take (aU p l)++p::l.drop (aU p l)
theorem xh (l:List ByteArray) (p z:ByteArray):z∈nQ l p↔z∈l∨z=p:=by
 unfold nQ
 split
 ·rename_i h
  exact⟨.inl,fun hh=>hh.elim id (fun e=>e▸List.mem_of_getElem? h)⟩
 ·have hm:z∈l↔z∈l.take (aU p l)∨z∈l.drop (aU p l):=by rw[←List.mem_append,List.take_append_drop]
  rw[List.mem_append,List.mem_cons,hm]
  constructor
  ·rintro(h|h|h)
   ·exact .inl (.inl h)
   ·exact .inr h
   ·exact .inl (.inr h)
  ·rintro((h|h)|h)
   ·exact .inl h
   ·exact .inr (.inr h)
   ·exact .inr (.inl h)
theorem sC {l:List ByteArray} (p:ByteArray) (hs:l.Pairwise bLt):(nQ l p).Pairwise bLt:=by
 unfold nQ
 split
 ·exact hs
 ·rename_i hne
  have hap:l.Pairwise bLt:=hs
  rw[←List.take_append_drop (aU p l) l,List.pairwise_append] at hap
  obtain⟨a1,a2,a3⟩:=hap
  have hd:∀z∈l.drop (aU p l),bLt p z:=fun z hz=>by
   rcases va p z with h|h|h
   ·exact h
   ·subst h
    exfalso
    cases hdr:l.drop (aU p l) with
    |nil=>rw[hdr] at hz;simp at hz
    |cons y m=>
     have hy:l[aU p l]?=some y:=by
      have:(l.drop (aU p l))[0]?=some y:=by rw[hdr];rfl
      simpa using this
     rw[hdr] at hz
     rcases List.mem_cons.1 hz with e|hz
     ·subst e;exact hne hy
     ·rw[hdr,List.pairwise_cons] at a2
      exact mp p hs y (by rw[hdr];simp) (a2.1 _ hz)
   ·exact absurd h (mp p hs z hz)
  rw[List.pairwise_append]
  refine⟨a1,List.pairwise_cons.2 ⟨hd,a2⟩,fun x hx y hy=>?_⟩
  rcases List.mem_cons.1 hy with rfl|hy
  ·exact qf y l x hx
  ·exact a3 x hx y hy
theorem yf (l:List ByteArray) (p:ByteArray):(nQ l p).length≤l.length+1:=by
 unfold nQ
 split
 ·omega
 ·simp;omega
theorem xX (w:List ByteArray) (x:Leg) (hw:w.length≤4194304):∀(n k:Nat),k+n=w.length→bH G.real TE.real w x n (k:Int)=some ((k+aU x.To (w.drop k):Nat):Int)
 |0,k,h=>by rw[bH,List.drop_of_length_le (by omega)];rfl
 |n+1,k,h=>by
  have hk:k<w.length:=by omega
  rw[bH]
  simp only[cw,Int.toNat_natCast,bG,zF,am]
  rw[ar (List.getElem?_eq_getElem hk),w64 (by omega) (by omega),show(k:Int)+1=((k+1:Nat):Int) from by omega,xX w x hw n (k+1) (by omega),List.drop_eq_getElem_cons hk,aU]
  split
  ·congr 2;omega
  ·rfl
theorem xZ (w:List ByteArray) (x:Leg) (hw:w.length≤4194304):∀(n k:Nat),k+n=w.length→bJ G.real TE.real w x n (k:Int)=some ((k+aU x.From (w.drop k):Nat):Int)
 |0,k,h=>by rw[bJ,List.drop_of_length_le (by omega)];rfl
 |n+1,k,h=>by
  have hk:k<w.length:=by omega
  rw[bJ]
  simp only[cw,Int.toNat_natCast,bG,zF,am]
  rw[ar (List.getElem?_eq_getElem hk),w64 (by omega) (by omega),show(k:Int)+1=((k+1:Nat):Int) from by omega,xZ w x hw n (k+1) (by omega),List.drop_eq_getElem_cons hk,aU]
  split
  ·congr 2;omega
  ·rfl
theorem uV {γ:Type} {w:List ByteArray} {p:ByteArray} (hw:w.length≤4194304) {k:List ByteArray→Option γ} {k2:Option γ} (h2:w[aU p w]?=some p→k2=k w):
 (br (decide (((aU p w:Nat):Int)=(w.length:Int)))
  (gd ((0:Int)≤0∧0≤((aU p w:Nat):Int)∧((aU p w:Nat):Int)≤((w.length:Nat):Int))<|
   gd (Int.toNat 0+(Int.toNat ((aU p w:Nat):Int)-Int.toNat 0)≤w.length)<|
   gd ((([]:List ByteArray).length+(List.take (Int.toNat ((aU p w:Nat):Int)-Int.toNat 0) (List.drop (Int.toNat 0) w)).length)*16≤70368744177664)<|
   gd ((([]++(List.take (Int.toNat ((aU p w:Nat):Int)-Int.toNat 0) (List.drop (Int.toNat 0) w))).length+[p].length)*16≤70368744177664)<|
   gd ((0:Int)≤((aU p w:Nat):Int)∧((aU p w:Nat):Int)≤(w.length:Int)∧(w.length:Int)≤((w.length:Nat):Int))<|
   gd (Int.toNat ((aU p w:Nat):Int)+(Int.toNat (w.length:Int)-Int.toNat ((aU p w:Nat):Int))≤w.length)<|
   gd ((([]++(List.take (Int.toNat ((aU p w:Nat):Int)-Int.toNat 0) (List.drop (Int.toNat 0) w))++[p]).length+(List.take (Int.toNat (w.length:Int)-Int.toNat ((aU p w:Nat):Int)) (List.drop (Int.toNat ((aU p w:Nat):Int)) w)).length)*16≤70368744177664)<|
   k ([]++(List.take (Int.toNat ((aU p w:Nat):Int)-Int.toNat 0) (List.drop (Int.toNat 0) w))++[p]++(List.take (Int.toNat (w.length:Int)-Int.toNat ((aU p w:Nat):Int)) (List.drop (Int.toNat ((aU p w:Nat):Int)) w))))
  (gd ((0:Int)≤((aU p w:Nat):Int)∧((aU p w:Nat):Int)<((w.length:Nat):Int))<|
   gt w (Int.toNat ((aU p w:Nat):Int)) fun x3=>
   br (decide (x3=p)) k2
   (gd ((0:Int)≤0∧0≤((aU p w:Nat):Int)∧((aU p w:Nat):Int)≤((w.length:Nat):Int))<|
   gd (Int.toNat 0+(Int.toNat ((aU p w:Nat):Int)-Int.toNat 0)≤w.length)<|
   gd ((([]:List ByteArray).length+(List.take (Int.toNat ((aU p w:Nat):Int)-Int.toNat 0) (List.drop (Int.toNat 0) w)).length)*16≤70368744177664)<|
   gd ((([]++(List.take (Int.toNat ((aU p w:Nat):Int)-Int.toNat 0) (List.drop (Int.toNat 0) w))).length+[p].length)*16≤70368744177664)<|
   gd ((0:Int)≤((aU p w:Nat):Int)∧((aU p w:Nat):Int)≤(w.length:Int)∧(w.length:Int)≤((w.length:Nat):Int))<|
   gd (Int.toNat ((aU p w:Nat):Int)+(Int.toNat (w.length:Int)-Int.toNat ((aU p w:Nat):Int))≤w.length)<|
   gd ((([]++(List.take (Int.toNat ((aU p w:Nat):Int)-Int.toNat 0) (List.drop (Int.toNat 0) w))++[p]).length+(List.take (Int.toNat (w.length:Int)-Int.toNat ((aU p w:Nat):Int)) (List.drop (Int.toNat ((aU p w:Nat):Int)) w)).length)*16≤70368744177664)<|
   k ([]++(List.take (Int.toNat ((aU p w:Nat):Int)-Int.toNat 0) (List.drop (Int.toNat 0) w))++[p]++(List.take (Int.toNat (w.length:Int)-Int.toNat ((aU p w:Nat):Int)) (List.drop (Int.toNat ((aU p w:Nat):Int)) w))))))=k (nQ w p):=by
 have hle:=uk p w
 have hv:[]++(List.take (Int.toNat ((aU p w:Nat):Int)-Int.toNat 0) (List.drop (Int.toNat 0) w))++[p]++(List.take (Int.toNat (w.length:Int)-Int.toNat ((aU p w:Nat):Int)) (List.drop (Int.toNat ((aU p w:Nat):Int)) w))=w.take (aU p w)++p::w.drop (aU p w):=by
  simp only[Int.toNat_natCast,Int.toNat_zero,Nat.sub_zero,List.drop_zero,List.nil_append]
  rw[List.take_of_length_le (l:=List.drop (aU p w) w) (by simp)]
  simp
 have hlt:(List.take (aU p w) w).length≤w.length:=by simp;omega
 by_cases hc:aU p w=w.length
 ·rw[am,if_pos (by omega)]
  repeat rw[ah (by simp;omega)]
  rw[hv]
  unfold nQ
  rw[if_neg]
  rw[List.getElem?_eq_none (by omega)]
  simp
 ·have hx:w[Int.toNat ((aU p w:Nat):Int)]?=some (w[aU p w]'(by omega)):=by
   rw[Int.toNat_natCast];exact List.getElem?_eq_getElem (by omega)
  rw[am,if_neg (by omega),ah (by omega),ar hx,am]
  by_cases he:w[aU p w]'(by omega)=p
  ·have hp:w[aU p w]?=some p:=by rw[List.getElem?_eq_getElem (by omega),he]
   rw[if_pos he,h2 hp]
   unfold nQ
   rw[if_pos hp]
  ·rw[if_neg he]
   repeat rw[ah (by simp;omega)]
   rw[hv]
   unfold nQ
   rw[if_neg]
   rw[List.getElem?_eq_getElem (by omega)]
   simpa using he
def pB (n:Network) (v:Nat):ByteArray:=if v%2=1 then(dW n ((v/2:Nat):Int)).To else(dW n ((v/2:Nat):Int)).From
theorem xQ (n:Network) (hn:n.Legs.length≤1048576):∀(m v:Nat) (w:List ByteArray),v+m=2*n.Legs.length→w.length≤v→w.Pairwise bLt→
 ∃u,aA G.real TE.real n m (v:Int) w=some u∧u.Pairwise bLt∧∀z,z∈u↔z∈w∨∃j,v≤j∧j<2*n.Legs.length∧z=pB n j
 |0,v,w,h,_,hs=>by
  rw[aA]
  refine⟨w,rfl,hs,fun z=>⟨.inl,?_⟩⟩
  rintro(h2|⟨j,h1,h2,_⟩)
  ·exact h2
  ·omega
 |m+1,v,w,h,hl,hs=>by
  have hq:Int.tdiv (v:Int) 2=((v/2:Nat):Int):=by rw[Int.tdiv_eq_ediv_of_nonneg (by omega)];omega
  have hr:Int.tmod (v:Int) 2=((v%2:Nat):Int):=by rw[Int.tmod_eq_emod_of_nonneg (by omega)];omega
  have hlt:v/2<n.Legs.length:=by omega
  have hg:n.Legs[v/2]?=some (dW n ((v/2:Nat):Int)):=by
   have:=eX (n:=n) (l:=((v/2:Nat):Int)) (by omega) (by omega)
   rwa [Int.toNat_natCast] at this
  obtain⟨u,e1,e2,e3⟩:=xQ n hn m (v+1) (nQ w (pB n v)) (by omega) (by have:=yf w (pB n v);omega) (sC _ hs)
  refine⟨u,?_,e2,fun z=>?_⟩
  ·rw[←e1,aA]
   simp only[Bq,wM,bG,cw,gH,gF,gR,hq,hr,aZ,kW,AC,Ah]
   rw[w64 (n:=((v/2:Nat):Int)) (by omega) (by omega),ah (by omega),Int.toNat_natCast (v/2),ar hg,w64 (n:=(v:Int)+1) (by omega) (by omega),show(v:Int)+1=((v+1:Nat):Int) from by omega]
   have cn:aS 0 (w.length:Int)=w.length:=by unfold aS;omega
   have z2:bH G.real TE.real w (dW n ((v/2:Nat):Int)) w.length 0=some ((aU (dW n ((v/2:Nat):Int)).To w:Nat):Int):=by simpa using xX w (dW n ((v/2:Nat):Int)) (by omega) w.length 0 (by omega)
   have z3:bJ G.real TE.real w (dW n ((v/2:Nat):Int)) w.length 0=some ((aU (dW n ((v/2:Nat):Int)).From w:Nat):Int):=by simpa using xZ w (dW n ((v/2:Nat):Int)) (by omega) w.length 0 (by omega)
   rw[ah (c:=(0:Int)≤((v/2:Nat):Int)) (by omega),ah (by omega),cn,z2,z3,ag,ag]
   by_cases hv:v%2=1
   ·have hp:pB n v=(dW n ((v/2:Nat):Int)).To:=by unfold pB;rw[if_pos hv]
    rw[am,if_pos (by omega)]
    have:=uV (γ:=List ByteArray) (w:=w) (p:=(dW n ((v/2:Nat):Int)).To) (by omega) (k:=fun l=>aA G.real TE.real n m ((v+1:Nat):Int) l) (k2:=aA G.real TE.real n m ((v+1:Nat):Int) w) (fun _=>rfl)
    rw[hp]
    exact this
   ·have hp:pB n v=(dW n ((v/2:Nat):Int)).From:=by unfold pB;rw[if_neg hv]
    rw[am,if_neg (by omega)]
    have:=uV (γ:=List ByteArray) (w:=w) (p:=(dW n ((v/2:Nat):Int)).From) (by omega) (k:=fun l=>aA G.real TE.real n m ((v+1:Nat):Int) l) (k2:=aA G.real TE.real n m ((v+1:Nat):Int) w) (fun _=>rfl)
    rw[hp,ah (by omega)]
    exact this
  ·rw[e3,xh]
   constructor
   ·rintro((h1|h1)|⟨j,h1,h2,h3⟩)
    ·exact .inl h1
    ·exact .inr ⟨v,by omega,by omega,h1⟩
    ·exact .inr ⟨j,by omega,h2,h3⟩
   ·rintro(h1|⟨j,h1,h2,h3⟩)
    ·exact .inl (.inl h1)
    ·by_cases hj:j=v
     ·subst hj;exact .inl (.inr h3)
     ·exact .inr ⟨j,by omega,h2,h3⟩
theorem w6 {n:Network} (h:n.Legs.length≤1048576):eo G.real TE.real n=some (plc n):=by
 obtain⟨u,e1,e2,e3⟩:=xQ n h (2*n.Legs.length) 0 [] (by omega) (by simp) (by simp)
 unfold eo
 simp only[aZ,lK,nR]
 have cn:aS 0 (2* (n.Legs.length:Int))=2*n.Legs.length:=by unfold aS;omega
 rw[w64 (by omega) (by omega),ah (by omega),cn,show(0:Int)=((0:Nat):Int) from rfl,e1,ag]
 congr 1
 refine uN e2 fun z=>?_
 rw[e3,pZ]
 simp only[List.not_mem_nil,false_or]
 constructor
 ·rintro⟨j,_,h2,h3⟩
  have hm:dW n ((j/2:Nat):Int)∈n.Legs:=kQ (by omega) (by omega)
  unfold pB at h3
  split at h3
  ·exact⟨_,hm,.inr h3⟩
  ·exact⟨_,hm,.inl h3⟩
 ·rintro⟨x,hx,hz⟩
  obtain⟨i,hi,rfl⟩:=List.getElem_of_mem hx
  have hlg:dW n ((i:Nat):Int)=n.Legs[i]:=by
   have:=eX (n:=n) (l:=((i:Nat):Int)) (by omega) (by omega)
   rw[Int.toNat_natCast,List.getElem?_eq_getElem hi] at this
   exact(Option.some.inj this).symm
  rcases hz with hz|hz
  ·refine⟨2*i,by omega,by omega,?_⟩
   unfold pB
   rw[if_neg (by omega),show 2*i/2=i by omega,hlg];exact hz
  ·refine⟨2*i+1,by omega,by omega,?_⟩
   unfold pB
   rw[if_pos (by omega),show(2*i+1)/2=i by omega,hlg];exact hz
theorem dA (n:Network) (z:ByteArray):z∈plc n↔∃x∈n.Legs,z=x.From∨z=x.To:=by unfold plc;rw[sL,pZ]
theorem dB (n:Network):(plc n).length≤2*n.Legs.length:=by
 refine Nat.le_trans (xV _) ?_
 unfold oK
 induction n.Legs with
 |nil=>simp
 |cons x l ih=>simp only[List.flatMap_cons,List.length_append,List.length_cons,List.length_nil];omega
theorem wO (s:ByteArray):∀(l:List ByteArray) (v:Int),0≤v→v+l.length≤4194304→bx G.real TE.real s l v=if s∈l then .ret (v+ixN l s) else .out ()
 |[],v,_,_=>by rw[bx];simp
 |z::l,v,h0,h1=>by
  simp only[List.length_cons] at h1
  rw[bx]
  simp only[kW,bG,am]
  rw[w64 (by omega) (by omega),wO s l (v+1) (by omega) (by omega)]
  by_cases h:z=s
  ·rw[if_pos h,if_pos (by simp[h])]
   unfold ixN
   rw[if_pos h];simp
  ·rw[if_neg h]
   by_cases hm:s∈l
   ·rw[if_pos hm,if_pos (by simp[hm])]
    congr 1
    conv=>rhs;unfold ixN
    rw[if_neg h];omega
   ·rw[if_neg hm,if_neg (by simp[hm];exact fun e=>h e.symm)]
theorem oq {l:List ByteArray} (h:l.length≤4194304) (s:ByteArray):dc G.real TE.real l s=ix l s:=by
 unfold dc
 rw[wO s l 0 (by omega) (by omega),aZ]
 unfold ix
 split<;>simp
theorem xP (s:ByteArray):∀(l:List ByteArray) (v:Int),cM G.real TE.real s l v=bx G.real TE.real s l v
 |[],v=>by rw[cM,bx]
 |z::l,v=>by rw[cM,bx,xP s l]
theorem sA {l:List ByteArray} (h:l.length≤4194304) (s:ByteArray):dd G.real TE.real l s=ix l s:=by
 rw[←oq h s]
 unfold dd dc
 rw[xP]
end Go.Vs
namespace Go.Vs
open Go.IntWalk
def fdD (p:Int→Bool):Nat→Int→Option Int
 |0,_=>none
 |n+1,v=>if p v=true then some v else fdD p n (v+1)
theorem nW {p:Int→Bool}:∀{n:Nat} {v d:Int},fdD p n v=some d→p d=true∧v≤d∧d<v+n
 |n+1,v,d,h=>by
  unfold fdD at h
  split at h
  ·rename_i hp;cases h;exact⟨hp,by omega,by omega⟩
  ·obtain⟨h1,h2,h3⟩:=nW h;exact⟨h1,by omega,by omega⟩
def tbO (l:Int):Option Int→Trip×Bool
 |some d=>(⟨l,d⟩,true)
 |none=>(⟨0,0⟩,false)
def dyO:Option Int→Int
 |some d=>d
 |none=> -1
def pN (n:Network) (l at_:Int) (d:Int):Bool:=runsB n l d&&decide (at_≤stN n l d)
theorem uU {n:Network} (hn:NetOk n) {l:Int} (at_:Int):∀(m:Nat) (v:Int),0≤v→v+m≤1000→dR G.real TE.real n l at_ m v=some (match fdD (pN n l at_) m v with|some d=>.ret (⟨l,d⟩,true)|none=>.out ())
 |0,v,_,_=>by rw[dR,fdD]
 |m+1,v,h0,h1=>by
  have hl:n.Legs.length≤1048576:=by have:=hn.len;omega
  rw[dR,fdD,tN hl]
  simp only[ag,bG,nt,am]
  rw[w64 (by omega) (by omega),uU hn at_ m (v+1) (by omega) (by omega)]
  unfold pN
  cases hr:runsB n l v with
  |false=>rfl
  |true=>
   obtain⟨r1,r2,r3,r4⟩:=ee hl hr
   rw[fr,rb hn r1 r2 r3 r4,ag]
   by_cases hc:at_≤stN n l v
   ·rw[if_pos hc];simp[hc]
   ·rw[if_neg hc];simp[hc]
theorem zV {n:Network} (hn:NetOk n) (l at_:Int):ow G.real TE.real n l at_=some (tbO l (fdD (pN n l at_) 61 0)):=by
 unfold ow
 rw[show ci 0 60=61 from rfl,uU hn at_ 61 0 (by omega) (by omega),ag]
 cases fdD (pN n l at_) 61 0<;>rfl
structure Find (fd:Fd) (n:Network) (f:Int→Int→Option Int):Prop where
 call:∀l a,callFd G.real TE.real fd l a=some (tbO l (f l a))
 ok:∀{l a d},f l a=some d→runsB n l d=true∧a≤stN n l d
def fN (n:Network) (l a:Int):Option Int:=fdD (pN n l a) 61 0
theorem qe {n:Network} (hn:NetOk n):Find (.I_nextOf_1 n) n (fN n):=by
 refine⟨fun l a=>?_,fun{l a d} h=>?_⟩
 ·show I_nextOf_1 G.real TE.real l a n=_
  unfold I_nextOf_1
  rw[zV hn,ag]
  rfl
 ·obtain⟨h1,_,_⟩:=nW h
  unfold pN at h1
  simpa using h1
end Go.Vs
namespace Go.Vs
open Go.IntWalk
def Ak (x y:Int):Int:=if x<y then-1 else if y<x then 1 else 0
theorem y8 (x y:Int):cY G.real TE.real x y=Ak x y:=by
 unfold cY Ak
 simp only[df,am]
def nM:List Int→Int
 |[]=>0
 |x::l=>if x=0 then nM l else x
theorem wY (l:List Int):lI G.real TE.real l=nM l:=by
 unfold lI
 simp only[aZ]
 induction l with
 |nil=>rfl
 |cons x l ih=>
  rw[fq,nM]
  simp only[gR,am]
  by_cases h:x=0
  ·rw[if_pos h,if_pos h];exact ih
  ·rw[if_neg h,if_neg h];rfl
end Go.Vs
