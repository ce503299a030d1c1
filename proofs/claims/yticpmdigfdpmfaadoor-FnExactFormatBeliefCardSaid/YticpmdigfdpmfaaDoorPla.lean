/- Part of the proofs of this seat's laws: Pla. No condition. -/
import Derived.Test.YticpmdigfdpmfaaDoorVf
import Derived.Test.YticpmdigfdpmfaaDoorLaa
import Derived.Test.YticpmdigfdpmfaaDoorHa
import Derived.Lib.ItoaLen
import Derived.Lib.Join
import Derived.Test.YticpmdigfdpmfaaDoorVg
import Derived.Sort.Walk0
set_option linter.unusedVariables false
set_option linter.unusedSimpArgs false
set_option linter.unusedSectionVars false
namespace Go.Vs
open Go.IntWalk
def st (l:List UInt8):ByteArray:=⟨l.toArray⟩
theorem dk (a b:List UInt8):st a++st b=st (a++b):=by
 apply ByteArray.ext
 rw[ByteArray.data_append]
 simp[st]
theorem aO (a:List UInt8):(st a).size=a.length:=by simp[st,ByteArray.size]
def dD (m:Nat):List UInt8:=if m=0 then[] else Lib.decDigits m
theorem pW {m:Nat} (h:m≠0):dD m=dD (m/10)++[UInt8.ofNat (48+m%10)]:=by
 unfold dD
 rw[if_neg h,Lib.decDigits]
 by_cases h10:m<10
 ·rw[dif_pos h10,if_pos (by omega),Nat.mod_eq_of_lt h10];rfl
 ·rw[dif_neg h10,if_neg (by omega)]
theorem oS {n:Int} {d:Nat} (h:n=48+d):G.real.bstr [n]=st [UInt8.ofNat (48+d)]:=by
 show strOfNums [n]=_
 subst h
 unfold strOfNums st
 simp only[List.map_cons,List.map_nil]
 rw[show((48:Int)+(d:Int)).toNat=48+d by omega]
theorem w8 {n:Int} (h0:0≤n) (h1:n≤255):G.real.wrap .u8 n=n:=by
 show IntKind.wrap .u8 n=n
 unfold IntKind.wrap
 simp[IntKind.bits,IntKind.signed]
 omega
theorem qg:∀(k fuel:Nat) (v:List UInt8) (x:Int),k<fuel→x.natAbs<10^k→ -9223372036854775808≤x→x≤9223372036854775807→v.length+k≤1000→
 au G.real TE.real fuel (st v) x=some (st (dD x.natAbs++v))
 |_,0,_,_,hf,_,_,_,_=>absurd hf (Nat.not_lt_zero _)
 |0,fuel+1,v,x,_,hx,_,_,_=>by
  have:x=0:=by have:x.natAbs<1:=hx;omega
  subst this
  rw[au,lf,decide_eq_true rfl,lK]
  rfl
 |k+1,fuel+1,v,x,hf,hx,h0,h1,hv=>by
  by_cases hz:x=0
  ·subst hz
   rw[au,lf,decide_eq_true rfl,lK]
   rfl
  ·have hm:x.natAbs≠0:=by omega
   have hq:(x.tdiv 10).natAbs=x.natAbs/10:=by rw[Int.natAbs_tdiv];rfl
   have hq2: -9223372036854775808≤x.tdiv 10∧x.tdiv 10≤9223372036854775807:=by omega
   have hlt:(x.tdiv 10).natAbs<10^k:=by rw[hq];rw[Nat.pow_succ] at hx;omega
   rw[au,lf,decide_eq_false hz,br_f,pW hm]
   simp only[kH,rN,rE,mW,li,ew,cJ,dh]
   have hd:∀d:Int,d=((x.natAbs%10:Nat):Int)→gd ((G.real.bstr [G.real.wrap .u8 (G.real.wrap .i64 (48+d))]).size+(st v).size≤70368744177664) (au G.real TE.real fuel (G.real.bstr [G.real.wrap .u8 (G.real.wrap .i64 (48+d))]++st v) (G.real.wrap .i64 (x.tdiv 10)))=some (st (dD (x.natAbs/10)++[UInt8.ofNat (48+x.natAbs%10)]++v)):=fun d hd=>by
    rw[w64 (n:=48+d) (by omega) (by omega),w8 (by omega) (by omega),oS (d:=x.natAbs%10) (by omega),aO,aO,aT (by simp;omega),dk,w64 hq2.1 hq2.2,qg k fuel _ _ (by omega) hlt hq2.1 hq2.2 (by simp;omega),hq]
    simp
   have hr:(x.tmod 10).natAbs=x.natAbs%10:=by rw[Int.natAbs_tmod];rfl
   split
   ·rw[w64 (n:=0-x.tmod 10) (by omega) (by omega)]
    exact hd _ (by omega)
   ·exact hd _ (by omega)
end Go.Vs
namespace Go.Vs
open Go.IntWalk
def I6 (x:Int):Prop:= -9223372036854775808≤x∧x≤9223372036854775807
theorem rB {x:Int} (h:I6 x):bM G.real TE.real x=some (st (Lib.itoa x)):=by
 unfold bM Lib.itoa
 rw[lf,dh]
 by_cases hz:x=0
 ·rw[if_pos hz,if_neg (by omega)]
  subst hz
  rw[show(0:Int).toNat=0 from rfl,Lib.decDigits,dif_pos (by omega)]
  rfl
 ·rw[if_neg hz]
  have hd:dD x.natAbs=Lib.decDigits x.natAbs:=by unfold dD;rw[if_neg (by omega)]
  have hlt:x.natAbs<10^19:=by
   have:(10:Nat)^19=10000000000000000000:=by decide
   rw[this];have:=h.1;have:=h.2;omega
  have e:=qg 19 1000000000 [] x (by omega) hlt h.1 h.2 (by simp)
  rw[hd,List.append_nil] at e
  rw[show bI=st [] from rfl,e,bn,kH,dh]
  have hl:(Lib.decDigits x.natAbs).length≤21:=by
   have:=Lib.itoa_length_le x h.1 h.2
   unfold Lib.itoa at this
   split at this
   ·simp at this;omega
   ·rw[show x.natAbs=x.toNat by omega];exact this
  by_cases hn:x<0
  ·rw[if_pos hn,if_pos hn,show gY=st [45] from rfl,aO,aO,aT (by simp;omega),ew,dk]
   rfl
  ·rw[if_neg hn,if_neg hn,show x.natAbs=x.toNat by omega]
theorem rD {x:Int} (h:I6 x):bP G.real TE.real x=some (st (Lib.itoa x)):=by
 unfold bP cY
 rw[aT (show-9223372036854775808≤x∧x≤9223372036854775807 from h),bn]
 rfl
def tT (t:Trip):List UInt8:=Lib.itoa t.Leg++47::Lib.itoa t.Day
def TrR (t:Trip):Prop:=I6 t.Leg∧I6 t.Day
theorem qB {t:Trip} (h:TrR t):(tT t).length≤43:=by
 have h1:=Lib.itoa_length_le _ h.1.1 h.1.2
 have h2:=Lib.itoa_length_le _ h.2.1 h.2.2
 unfold tT
 simp only[List.length_append,List.length_cons]
 omega
theorem m8 {t:Trip} (h:TrR t):cZ G.real TE.real t=some (st (tT t)):=by
 have h1:=Lib.itoa_length_le _ h.1.1 h.1.2
 have h2:=Lib.itoa_length_le _ h.2.1 h.2.2
 unfold cZ
 rw[rD h.1,bn,rD h.2,show cF=st [47] from rfl,aO,aO,aT (by simp;omega),bn,ew,dk,aO,aO,aT (by simp;omega),ew,dk]
 unfold tT
 simp
theorem qk:∀(ls:List Trip) (w:List ByteArray),(∀t∈ls,TrR t)→w.length+ls.length≤4000000→ax G.real TE.real ls w=some (w++ls.map fun t=>st (tT t))
 |[],w,_,_=>by rw[ax];simp
 |t::ls,w,h,hl=>by
  simp only[List.length_cons] at hl
  rw[ax,m8 (h t (by simp)),bn,cJ,aT (by simp;omega),cJ,qk ls _ (fun y hy=>h y (by simp[hy])) (by simp;omega)]
  rw[List.append_assoc]
  rfl
def bl (B:List (List UInt8)):List UInt8:=(B.map (32:: ·)).flatten
theorem eo (x:List UInt8) (B:List (List UInt8)):bl (x::B)=32::x++bl B:=rfl
theorem mQ (z:ByteArray):st z.data.toList=z:=by
 apply ByteArray.ext
 simp[st]
theorem qt:∀(ls:List ByteArray) (v:List UInt8),v.length+ls.length+cO (fun y=>y.size) ls≤4000000→aA G.real TE.real ls (st v)=some (st (v++bl (ls.map (·.data.toList))))
 |[],v,_=>by rw[aA];simp[bl]
 |z::ls,v,h=>by
  have hs:cO (fun y=>y.size) (z::ls)=z.size+cO (fun y=>y.size) ls:=rfl
  simp only[List.length_cons] at h
  rw[hs] at h
  have hz:z.data.toList.length=z.size:=Array.length_toList
  rw[aA,show bE=st [32] from rfl,aO,aO]
  rw[aT (by simp only[List.length_append,List.length_cons,List.length_nil,Nat.zero_add]<;>omega),ew,dk,aO,aT (by simp only[List.length_append,List.length_cons,List.length_nil,Nat.zero_add]<;>omega),ew,←mQ z,dk,qt ls _ (by simp only[List.length_append,List.length_cons,List.length_nil,hz];omega),List.map_cons,eo,mQ z]
  simp
theorem qp:∀(ls:List Trip) (v:List UInt8),(∀t∈ls,TrR t)→v.length+50*ls.length≤100000000→ay G.real TE.real ls (st v)=some (st (v++bl (ls.map tT)))
 |[],v,_,_=>by rw[ay];simp[bl]
 |t::ls,v,h,hl=>by
  have ht:=h t (by simp)
  have h1:=Lib.itoa_length_le _ ht.1.1 ht.1.2
  have h2:=Lib.itoa_length_le _ ht.2.1 ht.2.2
  simp only[List.length_cons] at hl
  rw[ay,show bE=st [32] from rfl,show cF=st [47] from rfl,aO,aO,aT (by simp;omega),rB ht.1,bn,ew,dk,aO,aO,aT (by simp;omega),ew,dk,aO,aO,aT (by simp;omega),rB ht.2,bn,ew,dk,aO,aO,aT (by simp;omega),ew,dk]
  rw[qp ls _ (fun y hy=>h y (by simp[hy])) (by simp;omega),List.map_cons,eo]
  unfold tT
  simp
theorem pi (a b:List (List UInt8)):bl (a++b)=bl a++bl b:=by simp[bl]
theorem mp (a:List (List UInt8)):(bl a).length=a.length+(a.map (·.length)).sum:=by
 induction a with
 |nil=>rfl
 |cons x a ih=>rw[eo];simp[ih];omega
end Go.Vs
namespace Go.Vs
open Go.IntWalk
theorem rp {a b:ByteArray} (h:bOf a=bOf b):a=b:=by
 have:=congrArg sOf h
 rwa [mD,mD] at this
instance memD (x:ByteArray):∀l:List ByteArray,Decidable (x∈l)
 |[]=>.isFalse (by simp)
 |y::l=>match decEq x y,memD x l with
  |.isTrue h,_=>.isTrue (by simp[h])
  |.isFalse h,.isTrue h2=>.isTrue (by simp[h2])
  |.isFalse h,.isFalse h2=>.isFalse (by simp[h,h2])
theorem oN (a b:ByteArray):G.real.seq a b=decide (a=b):=by
 rw[qh,Lib.toList_data,Lib.toList_data]
 by_cases h:a=b
 ·subst h;simp
 ·have:¬a.data.toList=b.data.toList:=fun e=>h (rp e)
  rw[decide_eq_false h]
  exact beq_false_of_ne this
def bLt (a b:ByteArray):Prop:=bOf a<bOf b
instance (a b:ByteArray):Decidable (bLt a b):=inferInstanceAs (Decidable (bOf a<bOf b))
end Go.Vs
