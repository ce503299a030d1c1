/- Part of the proofs of this seat's laws: Hb. No condition. -/
import Derived.Test.YticpmdigfdpmfaaDoorHa
import Derived.Test.YticpmdigfdpmfaaDoorLaa
set_option linter.unusedVariables false
set_option linter.unusedSimpArgs false
set_option linter.unusedSectionVars false
namespace Go.Vs
open Go.IntWalk
set_option linter.unusedVariables false
set_option linter.unusedSimpArgs false
theorem hJ (l:List ByteArray):∀(k:Nat) (w:List ByteArray),w.length=k+l.length→w.length<4611686018427387904→aP G.real TE.real l k w=some (w.take k++l):=by
 induction l with
 |nil=>intro k w h hb;rw[aP,List.take_of_length_le (by simp at h;omega)];simp
 |cons z l ih=>
  intro k w h hb
  simp only[List.length_cons] at h
  have hk:k<w.length:=by omega
  rw[aP]
  simp only[mq,jA,Int.toNat_natCast,li]
  rw[aT (by omega),gG (List.getElem?_eq_getElem hk),w64 (by omega) (by omega)]
  try simp only[cJ]
  rw[show(k:Int)+1=((k+1:Nat):Int) by omega,ih (k+1) _ (by simp;omega) (by simpa using hb)]
  rw[List.take_add_one]
  simp[hk,List.take_set_of_le,List.append_assoc]
theorem k5 (l:List ByteArray) (h:l.length+cO (fun y=>y.size) l≤1048576):cE G.real TE.real l=some l:=by
 unfold cE
 simp only[pk,jA,Int.toNat_natCast,cJ]
 rw[aT (by omega),show(0:Int)=((0:Nat):Int) from rfl,hJ l 0 _ (by simp) (by simp;omega)]
 simp
theorem gR (a:List ByteArray) (l:List ByteArray):∀(k:Nat),a.drop k=l→a.length<4611686018427387904→aQ G.real TE.real a l k=some (.out ()):=by
 induction l with
 |nil=>intro k h hb;rw[aQ]
 |cons z l ih=>
  intro k h hb
  have hk:k<a.length:=by
   have:=congrArg List.length h
   simp at this;omega
  have hz:a[k]?=some z:=by
   have:=congrArg (fun l=>l[0]?) h
   simpa using this
  rw[aQ]
  simp only[jA,Int.toNat_natCast,li]
  rw[gG hz]
  simp only[lf,qh,beq_self_eq_true,decide_true,lK]
  rw[w64 (by omega) (by omega),show(k:Int)+1=((k+1:Nat):Int) by omega]
  exact ih (k+1) (by rw[←List.drop_drop,h];rfl) hb
theorem lz (l:List ByteArray) (h:l.length+cO (fun y=>y.size) l≤1048576):cr G.real TE.real l l=some true:=by
 unfold cr
 simp only[lf,decide_true,lK]
 rw[show(0:Int)=((0:Nat):Int) from rfl,gR l l 0 (by simp) (by omega)]
 rfl
theorem iG (l:List ByteArray):∀(v:Int),0≤v→v<4294967296→(∀y∈l,y.size≤9223372036854775807)→aR G.real TE.real l v=if v-(cO (fun y=>y.size) l:Nat)<0 then .ret (-1) else .out (v-(cO (fun y=>y.size) l:Nat)):=by
 induction l with
 |nil=>
  intro v h0 h1 hw
  have hT:cO (fun y=>y.size) ([]:List ByteArray)=0:=rfl
  rw[aR,if_neg (by omega),hT];simp
 |cons z l ih=>
  intro v h0 h1 hw
  rw[aR]
  have hz:=hw z (by simp)
  have hT:cO (fun y=>y.size) (z::l)=z.size+cO (fun y=>y.size) l:=by simp[cO]
  simp only[o8,oe,mW,kH]
  rw[w64 (by omega) (by omega)]
  simp only[dh]
  by_cases h:v-z.size<0
  ·rw[if_pos h,if_pos (by omega)]
  ·rw[if_neg h,ih _ (by omega) (by omega) (fun y hy=>hw y (by simp[hy])),hT]
   have e:v-z.size-(cO (fun y=>y.size) l:Nat)=v-((z.size+cO (fun y=>y.size) l:Nat):Int):=by omega
   rw[e]
theorem kW (l:List ByteArray) (v:Int) (h0:0≤v) (h1:v<4294967296) (hw:l.length≤9223372036854775807∧∀y∈l,y.size≤9223372036854775807):cm G.real TE.real l v=cu v (l.length+cO (fun y=>y.size) l):=by
 unfold cm
 have hw1:=hw.1
 simp only[pk,mW,kH]
 rw[w64 (by omega) (by omega)]
 simp only[dh,cJ]
 unfold cu
 by_cases h:v-l.length<0
 ·rw[if_pos h,if_pos (by omega)]
 ·rw[if_neg h,iG l _ (by omega) (by omega) hw.2]
  have e:v-(l.length:Int)-(cO (fun y=>y.size) l:Nat)=v-((l.length+cO (fun y=>y.size) l:Nat):Int):=by omega
  rw[e]
  split<;>rfl
theorem oW (x:Trip):fm G.real TE.real x=x:=by
 rfl
theorem oP (x:Trip):dY G.real TE.real x x=true:=by
 simp[dY]
theorem kr (l:List Trip):∀(k:Nat) (w:List Trip),w.length=k+l.length→w.length<4611686018427387904→a8 G.real TE.real l k w=some (w.take k++l):=by
 induction l with
 |nil=>intro k w h hb;rw[a8,List.take_of_length_le (by simp at h;omega)];simp
 |cons z l ih=>
  intro k w h hb
  simp only[List.length_cons] at h
  have hk:k<w.length:=by omega
  rw[a8]
  simp only[oW,cJ,mb,jA,Int.toNat_natCast,li]
  rw[aT (by omega),gG (List.getElem?_eq_getElem hk),w64 (by omega) (by omega)]
  try simp only[cJ]
  rw[show(k:Int)+1=((k+1:Nat):Int) by omega,ih (k+1) _ (by simp;omega) (by simpa using hb)]
  rw[List.take_add_one]
  simp[hk,List.take_set_of_le,List.append_assoc]
theorem n7 (l:List Trip) (h:l.length≤1048576):dv G.real TE.real l=some l:=by
 unfold dv
 simp only[jP,jA,Int.toNat_natCast,cJ]
 rw[aT (by omega),show(0:Int)=((0:Nat):Int) from rfl,kr l 0 _ (by simp) (by simp;omega)]
 simp
theorem kc (a:List Trip) (l:List Trip):∀(k:Nat),a.drop k=l→a.length<4611686018427387904→aZ G.real TE.real a l k=some (.out ()):=by
 induction l with
 |nil=>intro k h hb;rw[aZ]
 |cons z l ih=>
  intro k h hb
  have hk:k<a.length:=by
   have:=congrArg List.length h
   simp at this;omega
  have hz:a[k]?=some z:=by
   have:=congrArg (fun l=>l[0]?) h
   simpa using this
  rw[aZ]
  simp only[jA,Int.toNat_natCast,li]
  rw[gG hz]
  simp only[oP,bn,cJ,lK]
  rw[w64 (by omega) (by omega),show(k:Int)+1=((k+1:Nat):Int) by omega]
  exact ih (k+1) (by rw[←List.drop_drop,h];rfl) hb
theorem nG (l:List Trip) (h:l.length≤1048576):dE G.real TE.real l l=some true:=by
 unfold dE
 simp only[lf,decide_true,lK]
 rw[show(0:Int)=((0:Nat):Int) from rfl,kc l l 0 (by simp) (by omega)]
 rfl
theorem nF (l:List Trip) (v:Int) (h0:0≤v) (h1:v<4294967296) (hw:l.length≤9223372036854775807):dw G.real TE.real l v=cu v l.length:=by
 unfold dw
 simp only[jP,mW,kH]
 rw[w64 (by omega) (by omega)]
 unfold cu
 by_cases h:v-l.length<0<;>simp[h]
theorem ml (x:Belief) (h:Belief.tot x≤1048576):bH G.real TE.real x=some x:=by
 unfold Belief.tot at h
 simp only[bH,k5 x.Places (by omega),n7 x.Rides (by omega),bn,cJ]
theorem l5 (x:Belief) (h:Belief.tot x≤1048576):cT G.real TE.real x x=some true:=by
 unfold Belief.tot at h
 simp[cT,lz x.Places (by omega),nG x.Rides (by omega)]
theorem lW (x:Belief) (v:Int) (h0:0≤v) (h1:v<4294967296) (hw:Belief.wd x):cW G.real TE.real x v=cu v (Belief.tot x):=by
 unfold Belief.wd at hw
 unfold cW Belief.tot
 rw[kW x.Places _ (by omega) (by omega) hw.1]
 try simp only[cJ,kH,dh]
 by_cases g0:cu (v) ((x.Places.length+cO (fun y=>y.size) x.Places))<0
 ·have q0:=jh g0;rw[if_pos g0];unfold cu;rw[if_pos (by omega)]
 have q0:=i8 g0
 rw[if_neg g0,q0.1,show v-(((x.Places.length+cO (fun y=>y.size) x.Places):Nat):Int)=v-(((x.Places.length+cO (fun y=>y.size) x.Places):Nat):Int) by omega]
 rw[nF x.Rides _ (by omega) (by omega) hw.2]
 try simp only[cJ,kH,dh]
 by_cases g1:cu (v-(((x.Places.length+cO (fun y=>y.size) x.Places):Nat):Int)) (x.Rides.length)<0
 ·have q1:=jh g1;rw[if_pos g1];unfold cu;rw[if_pos (by omega)]
 ·have q1:=i8 g1;rw[if_neg g1];try(rw[q1.1];unfold cu;rw[if_neg (by omega)];try omega)
end Go.Vs
