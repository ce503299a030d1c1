/- Part of the proofs of this seat's laws: Pla. No condition. -/
import Derived.Test.YtdgkokanccedkaaGreatDoorVf
import Derived.Test.YtdgkokanccedkaaGreatDoorLab
import Derived.Test.YtdgkokanccedkaaGreatDoorLaa
import Derived.Lib.AtoiAllCases
import Derived.Lib.ItoaMem
import Derived.Lib.SplitLaws
import Derived.Lib.IndexMore
import Derived.Test.YtdgkokanccedkaaGreatDoorHa
import Derived.Lib.ItoaLen
import Derived.Lib.Join
import Derived.Test.YtdgkokanccedkaaGreatDoorVg
import Derived.Sort.Walk0
set_option linter.unusedVariables false
set_option linter.unusedSimpArgs false
set_option linter.unusedSectionVars false
namespace Go.Vs
open Go.IntWalk
def st (l:List UInt8):ByteArray:=⟨l.toArray⟩
theorem pg (a b:List UInt8):st a++st b=st (a++b):=by
 apply ByteArray.ext
 rw[ByteArray.data_append]
 simp[st]
theorem aC (a:List UInt8):(st a).size=a.length:=by simp[st,ByteArray.size]
def dD (m:Nat):List UInt8:=if m=0 then[] else Lib.decDigits m
theorem uB {m:Nat} (h:m≠0):dD m=dD (m/10)++[UInt8.ofNat (48+m%10)]:=by
 unfold dD
 rw[if_neg h,Lib.decDigits]
 by_cases h10:m<10
 ·rw[dif_pos h10,if_pos (by omega),Nat.mod_eq_of_lt h10];rfl
 ·rw[dif_neg h10,if_neg (by omega)]
theorem sT {n:Int} {d:Nat} (h:n=48+d):G.real.bstr [n]=st [UInt8.ofNat (48+d)]:=by
 show strOfNums [n]=_
 subst h
 unfold strOfNums st
 simp only[List.map_cons,List.map_nil]
 rw[show((48:Int)+(d:Int)).toNat=48+d by omega]
theorem w8 {n:Int} (h0:0≤n) (h1:n≤255):G.real.wrap .u8 n=n:=by
 show IntKind.wrap .u8 n=n
 unfold IntKind.wrap
 simp[IntKind.bits,IntKind.signed]
 omega
theorem uD:∀(k fuel:Nat) (v:List UInt8) (x:Int),k<fuel→x.natAbs<10^k→ -9223372036854775808≤x→x≤9223372036854775807→v.length+k≤1000→
 aJ G.real TE.real fuel (st v) x=some (st (dD x.natAbs++v))
 |_,0,_,_,hf,_,_,_,_=>absurd hf (Nat.not_lt_zero _)
 |0,fuel+1,v,x,_,hx,_,_,_=>by
  have:x=0:=by have:x.natAbs<1:=hx;omega
  subst this
  rw[aJ,fF,decide_eq_true rfl,eK]
  rfl
 |k+1,fuel+1,v,x,hf,hx,h0,h1,hv=>by
  by_cases hz:x=0
  ·subst hz
   rw[aJ,fF,decide_eq_true rfl,eK]
   rfl
  ·have hm:x.natAbs≠0:=by omega
   have hq:(x.tdiv 10).natAbs=x.natAbs/10:=by rw[Int.natAbs_tdiv];rfl
   have hq2: -9223372036854775808≤x.tdiv 10∧x.tdiv 10≤9223372036854775807:=by omega
   have hlt:(x.tdiv 10).natAbs<10^k:=by rw[hq];rw[Nat.pow_succ] at hx;omega
   rw[aJ,fF,decide_eq_false hz,sJ,uB hm]
   simp only[fq,lu,mE,jj,dz,rR,bp,aE]
   have hd:∀d:Int,d=((x.natAbs%10:Nat):Int)→gd ((G.real.bstr [G.real.wrap .u8 (G.real.wrap .i64 (48+d))]).size+(st v).size≤70368744177664) (aJ G.real TE.real fuel (G.real.bstr [G.real.wrap .u8 (G.real.wrap .i64 (48+d))]++st v) (G.real.wrap .i64 (x.tdiv 10)))=some (st (dD (x.natAbs/10)++[UInt8.ofNat (48+x.natAbs%10)]++v)):=fun d hd=>by
    rw[w64 (n:=48+d) (by omega) (by omega),w8 (by omega) (by omega),sT (d:=x.natAbs%10) (by omega),aC,aC,ag (by simp;omega),pg,w64 hq2.1 hq2.2,uD k fuel _ _ (by omega) hlt hq2.1 hq2.2 (by simp;omega),hq]
    simp
   have hr:(x.tmod 10).natAbs=x.natAbs%10:=by rw[Int.natAbs_tmod];rfl
   split
   ·rw[w64 (n:=0-x.tmod 10) (by omega) (by omega)]
    exact hd _ (by omega)
   ·exact hd _ (by omega)
end Go.Vs
namespace Go.Vs
open Go.Lib
theorem tm (m:Nat):itoa (m:Int)=decDigits m:=itoa_nonneg m
def two (x:Nat):List UInt8:=[UInt8.ofNat (48+x/10),UInt8.ofNat (48+x%10)]
theorem kZ {x:Nat} (h:x<100):itoa (x:Int)=if x<10 then[UInt8.ofNat (48+x%10)] else two x:=by
 rw[tm]
 by_cases h1:x<10
 ·rw[if_pos h1,decDigits_one h1,Nat.mod_eq_of_lt h1]
 ·rw[if_neg h1,decDigits_two h1 h];rfl
def clk (m:Nat):List UInt8:=two (m/60)++58::two (m%60)
theorem mU (m:Nat):(clk m).length=5:=rfl
def tmT (t:Int):List UInt8:=itoa ((t.toNat/1440:Nat):Int)++32::clk (t.toNat%1440)
end Go.Vs
namespace Go.Vs
open Go.IntWalk
def I6 (x:Int):Prop:= -9223372036854775808≤x∧x≤9223372036854775807
theorem tA {x:Int} (h:I6 x):bB G.real TE.real x=some (st (Lib.itoa x)):=by
 unfold bB Lib.itoa
 rw[fF,aE]
 by_cases hz:x=0
 ·rw[if_pos hz,if_neg (by omega)]
  subst hz
  rw[show(0:Int).toNat=0 from rfl,Lib.decDigits,dif_pos (by omega)]
  rfl
 ·rw[if_neg hz]
  have hd:dD x.natAbs=Lib.decDigits x.natAbs:=by unfold dD;rw[if_neg (by omega)]
  have hlt:x.natAbs<10^19:=by
   have:(10:Nat)^19=10000000000000000000:=by decide
   rw[this];have:=h.1;have:=h.2;omega
  have e:=uD 19 1000000000 [] x (by omega) hlt h.1 h.2 (by simp)
  rw[hd,List.append_nil] at e
  rw[show str_k0=st [] from rfl,e,al,fq,aE]
  have hl:(Lib.decDigits x.natAbs).length≤21:=by
   have:=Lib.itoa_length_le x h.1 h.2
   unfold Lib.itoa at this
   split at this
   ·simp at this;omega
   ·rw[show x.natAbs=x.toNat by omega];exact this
  by_cases hn:x<0
  ·rw[if_pos hn,if_pos hn,show hO=st [45] from rfl,aC,aC,ag (by simp;omega),rR,pg]
   rfl
  ·rw[if_neg hn,if_neg hn,show x.natAbs=x.toNat by omega]
theorem tg {x:Int} (h:I6 x):aQ G.real TE.real x=some (st (Lib.itoa x)):=by
 unfold aQ dZ
 rw[ag (show-9223372036854775808≤x∧x≤9223372036854775807 from h),al]
 rfl
def bl (B:List (List UInt8)):List UInt8:=(B.map (32:: ·)).flatten
theorem qi (z:ByteArray):st z.data.toList=z:=by
 apply ByteArray.ext
 simp[st]
end Go.Vs
namespace Go.Vs
open Go.IntWalk
theorem ti {a b:ByteArray} (h:bOf a=bOf b):a=b:=by
 have:=congrArg sOf h
 rwa [qj,qj] at this
instance memD (x:ByteArray):∀l:List ByteArray,Decidable (x∈l)
 |[]=>.isFalse (by simp)
 |y::l=>match decEq x y,memD x l with
  |.isTrue h,_=>.isTrue (by simp[h])
  |.isFalse h,.isTrue h2=>.isTrue (by simp[h2])
  |.isFalse h,.isFalse h2=>.isFalse (by simp[h,h2])
theorem gB (a b:ByteArray):G.real.seq a b=decide (a=b):=by
 rw[uI,Lib.toList_data,Lib.toList_data]
 by_cases h:a=b
 ·subst h;simp
 ·have:¬a.data.toList=b.data.toList:=fun e=>h (ti e)
  rw[decide_eq_false h]
  exact beq_false_of_ne this
def bLt (a b:ByteArray):Prop:=bOf a<bOf b
instance (a b:ByteArray):Decidable (bLt a b):=inferInstanceAs (Decidable (bOf a<bOf b))
theorem uG (a b:ByteArray):G.real.slt a b=decide (bLt a b):=by
 show Op.bytesLess a.toList b.toList=_
 rw[Go.Proofs.bytesLess_eq,Lib.toList_data,Lib.toList_data]
 rfl
theorem gV (a:ByteArray):¬bLt a a:=List.lt_irrefl _
theorem lI {a b c:ByteArray} (h1:bLt a b) (h2:bLt b c):bLt a c:=List.lt_trans h1 h2
theorem pP (a b:ByteArray):bLt a b∨a=b∨bLt b a:=by
 by_cases h1:bLt a b
 ·exact .inl h1
 ·by_cases h2:bLt b a
  ·exact .inr (.inr h2)
  ·refine .inr (.inl (ti ?_))
   exact List.le_antisymm (fun h=>h2 h) (fun h=>h1 h)
theorem lv:∀{l m:List ByteArray},l.Pairwise bLt→m.Pairwise bLt→(∀x,x∈l↔x∈m)→l=m
 |[],[],_,_,_=>rfl
 |[],y::m,_,_,h=>by have:=(h y).2 (by simp);simp at this
 |x::l,[],_,_,h=>by have:=(h x).1 (by simp);simp at this
 |x::l,y::m,hl,hm,h=>by
  obtain⟨l1,l2⟩:=List.pairwise_cons.1 hl
  obtain⟨m1,m2⟩:=List.pairwise_cons.1 hm
  have hxy:x=y:=by
   have hx:=(h x).1 (by simp)
   have hy:=(h y).2 (by simp)
   rcases List.mem_cons.1 hx with e|hx
   ·exact e
   ·rcases List.mem_cons.1 hy with e|hy
    ·exact e.symm
    ·exact absurd (lI (l1 _ hy) (m1 _ hx)) (gV _)
  subst hxy
  congr 1
  refine lv l2 m2 fun z=>?_
  have hz:=h z
  simp only[List.mem_cons] at hz
  constructor
  ·intro hzl
   rcases hz.1 (.inr hzl) with e|e
   ·subst e;exact absurd (l1 _ hzl) (gV _)
   ·exact e
  ·intro hzm
   rcases hz.2 (.inr hzm) with e|e
   ·subst e;exact absurd (m1 _ hzm) (gV _)
   ·exact e
theorem n7 (l:List ByteArray) (z:ByteArray):z∈g7 l↔z∈l:=by
 have h:(g7 l).Perm ((l.map bOf).map sOf):=(List.mergeSort_perm _ _).map sOf
 rw[h.mem_iff,List.map_map]
 simp only[List.mem_map,Function.comp]
 constructor
 ·rintro⟨a,ha,rfl⟩;exact ha
 ·intro hz;exact⟨z,hz,rfl⟩
theorem oS (l:List ByteArray):(g7 l).length=l.length:=by unfold g7;rw[List.length_map,List.length_mergeSort,List.length_map]
theorem jF {l:List ByteArray} (hn:l.Nodup):(g7 l).Pairwise bLt:=by
 have hp:(g7 l).Perm l:=by
  have:=(List.mergeSort_perm (l.map bOf) fun x y=>decide (x≤y)).map sOf
  rw[List.map_map] at this
  have e:l.map (sOf∘bOf)=l:=by
   conv=>rhs;rw[←List.map_id l]
   rfl
  rw[e] at this
  exact this
 have hnd:(g7 l).Nodup:=hp.nodup_iff.2 hn
 have hs:((l.map bOf).mergeSort fun x y=>decide (x≤y)).Pairwise fun a b=>(decide (a≤b))=true:=by
  refine List.pairwise_mergeSort (fun a b c h1 h2=>?_) (fun a b=>?_) _
  ·simp only[decide_eq_true_eq] at h1 h2 ⊢;exact List.le_trans h1 h2
  ·simp only[Bool.or_eq_true,decide_eq_true_eq];exact List.le_total a b
 have hs2:(g7 l).Pairwise fun a b=>bOf a≤bOf b:=by
  unfold g7
  rw[List.pairwise_map]
  exact hs.imp fun h=>by simpa [tU] using h
 refine(hs2.and hnd).imp fun⟨h1,h2⟩=>?_
 rcases pP _ _ with h|h|h
 ·exact h
 ·exact absurd h h2
 ·exact absurd h (fun hh=>h1 hh)
def ddp:List ByteArray→List ByteArray
 |[]=>[]
 |x::l=>if x∈l then ddp l else x::ddp l
theorem jV:∀(l:List ByteArray) (z:ByteArray),z∈ddp l↔z∈l
 |[],z=>by simp[ddp]
 |x::l,z=>by
  unfold ddp
  split
  ·rename_i h
   rw[jV l z,List.mem_cons]
   exact⟨.inr,fun hh=>hh.elim (fun e=>e▸h) id⟩
  ·rw[List.mem_cons,List.mem_cons,jV l z]
theorem iR:∀l:List ByteArray,(ddp l).Nodup
 |[]=>by simp[ddp]
 |x::l=>by
  unfold ddp
  split
  ·exact iR l
  ·rename_i h
   exact List.nodup_cons.2 ⟨by rw[jV];exact h,iR l⟩
def oY (l:List ByteArray):List ByteArray:=g7 (ddp l)
theorem oK (l:List ByteArray) (z:ByteArray):z∈oY l↔z∈l:=by
 unfold oY
 rw[n7,jV]
theorem n5 (l:List ByteArray):(oY l).Pairwise bLt:=jF (iR l)
theorem qk {l m:List ByteArray} (h:m.Pairwise bLt) (hm:∀x,x∈m↔x∈l):m=oY l:=lv h (n5 l) fun x=>by rw[hm,oK]
theorem qb:∀l:List ByteArray,(ddp l).length≤l.length
 |[]=>by simp[ddp]
 |x::l=>by
  have:=qb l
  unfold ddp
  split<;>simp<;>omega
theorem tC (l:List ByteArray):(oY l).length≤l.length:=by unfold oY;rw[oS];exact qb l
def ixN:List ByteArray→ByteArray→Nat
 |[],_=>0
 |x::l,s=>if x=s then 0 else ixN l s+1
def ix (l:List ByteArray) (s:ByteArray):Int:=if s∈l then(ixN l s:Int) else-1
theorem mH {l:List ByteArray} {s:ByteArray}:0≤ix l s↔s∈l:=by
 unfold ix;split<;>simp_all
end Go.Vs
