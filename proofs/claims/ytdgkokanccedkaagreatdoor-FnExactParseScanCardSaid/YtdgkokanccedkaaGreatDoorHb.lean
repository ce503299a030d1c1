/- Part of the proofs of this seat's laws: Hb. No condition. -/
import Derived.Test.YtdgkokanccedkaaGreatDoorHa
import Derived.Test.YtdgkokanccedkaaGreatDoorLad
set_option linter.unusedVariables false
set_option linter.unusedSimpArgs false
set_option linter.unusedSectionVars false
namespace Go.Vs
open Go.IntWalk
set_option linter.unusedVariables false
set_option linter.unusedSimpArgs false
theorem y5 (x:Leg) (h:Leg.tot x≤1048576):mX G.real TE.real x=x:=by
 unfold Leg.tot at h
 rfl
theorem zz (x:Leg) (h:Leg.tot x≤1048576):ky G.real TE.real x x=true:=by
 unfold Leg.tot at h
 simp[ky]
theorem yP (x:Leg) (v:Int) (h0:0≤v) (h1:v<4294967296) (hw:Leg.wd x):kZ G.real TE.real x v=dM v (Leg.tot x):=by
 unfold Leg.wd at hw
 unfold kZ Leg.tot
 have hw0_:=hw.1
 try simp only[dP,ge,kA]
 rw[w64 (by omega) (by omega)]
 try simp only[eK,al]
 by_cases g0:v-((x.From.size:Nat):Int)<0
 ·rw[if_pos g0];unfold dM;rw[if_pos (by omega)]
 rw[if_neg g0,show v-((x.From.size:Nat):Int)=v-((x.From.size:Nat):Int) by omega]
 have hw1_:=hw.2
 try simp only[dP,ge,kA]
 rw[w64 (by omega) (by omega)]
 try simp only[eK,al]
 by_cases g1:v-((x.From.size:Nat):Int)-((x.To.size:Nat):Int)<0
 ·rw[if_pos g1];unfold dM;rw[if_pos (by omega)]
 ·rw[if_neg g1];unfold dM;rw[if_neg (by omega)];try omega
theorem rT (l:List Leg):∀(k:Nat) (w:List Leg),w.length=k+l.length→w.length<4611686018427387904→(∀y∈l,Leg.tot y≤1048576)→cN G.real TE.real l k w=some (w.take k++l):=by
 induction l with
 |nil=>intro k w h hb hs;rw[cN,List.take_of_length_le (by simp at h;omega)];simp
 |cons z l ih=>
  intro k w h hb hs
  simp only[List.length_cons] at h
  have hk:k<w.length:=by omega
  rw[cN]
  simp only[y5 z (hs z (by simp)),bc,jC,d9,Int.toNat_natCast,bU]
  rw[af (by omega),ay (List.getElem?_eq_getElem hk),w64 (by omega) (by omega)]
  try simp only[bc]
  rw[show(k:Int)+1=((k+1:Nat):Int) by omega,ih (k+1) _ (by simp;omega) (by simpa using hb) (fun y hy=>hs y (by simp[hy]))]
  rw[List.take_add_one]
  simp[hk,List.take_set_of_le,List.append_assoc]
theorem xq (l:List Leg) (h:l.length+fT (fun y=>Leg.tot y) l≤1048576):i3 G.real TE.real l=some l:=by
 unfold i3
 simp only[iY,d9,Int.toNat_natCast,bc]
 rw[af (by omega),show(0:Int)=((0:Nat):Int) from rfl,rT l 0 _ (by simp) (by simp;omega) (fun y hy=>by have:=nP (fun y=>Leg.tot y) hy;omega)]
 simp
theorem sQ (a:List Leg) (l:List Leg):∀(k:Nat),a.drop k=l→a.length<4611686018427387904→(∀y∈l,Leg.tot y≤1048576)→cL G.real TE.real a l k=some (.out ()):=by
 induction l with
 |nil=>intro k h hb hs;rw[cL]
 |cons z l ih=>
  intro k h hb hs
  have hk:k<a.length:=by
   have:=congrArg List.length h
   simp at this;omega
  have hz:a[k]?=some z:=by
   have:=congrArg (fun l=>l[0]?) h
   simpa using this
  rw[cL]
  simp only[d9,Int.toNat_natCast,bU]
  rw[ay hz]
  rw[zz z (hs z (by simp))]
  simp only[ah,bc,cK]
  rw[w64 (by omega) (by omega),show(k:Int)+1=((k+1:Nat):Int) by omega]
  exact ih (k+1) (by rw[←List.drop_drop,h];rfl) hb (fun y hy=>hs y (by simp[hy]))
theorem wt (l:List Leg) (h:l.length+fT (fun y=>Leg.tot y) l≤1048576):iq G.real TE.real l l=some true:=by
 unfold iq
 simp only[dO,decide_true,cK]
 rw[show(0:Int)=((0:Nat):Int) from rfl,sQ l l 0 (by simp) (by omega) (fun y hy=>by have:=nP (fun y=>Leg.tot y) hy;omega)]
 rfl
theorem sO (l:List Leg):∀(v:Int),0≤v→v<4294967296→(∀y∈l,Leg.wd y)→cM G.real TE.real l v=if v-(fT (fun y=>Leg.tot y) l:Nat)<0 then .ret (-1) else .out (v-(fT (fun y=>Leg.tot y) l:Nat)):=by
 induction l with
 |nil=>
  intro v h0 h1 hw
  have hT:fT (fun y=>Leg.tot y) ([]:List Leg)=0:=rfl
  rw[cM,if_neg (by omega),hT];simp
 |cons z l ih=>
  intro v h0 h1 hw
  rw[cM]
  rw[yP z v h0 h1 (hw z (by simp))]
  have hT:fT (fun y=>Leg.tot y) (z::l)=Leg.tot z+fT (fun y=>Leg.tot y) l:=by simp[fT]
  simp only[bc,eK,al]
  by_cases h:dM v (Leg.tot z)<0
  ·have:=lO h
   rw[if_pos h,if_pos (by omega)]
  ·have:=jw h
   rw[if_neg h,ih _ (by omega) (by omega) (fun y hy=>hw y (by simp[hy])),this.1,hT]
   have e:v-(Leg.tot z:Nat)-(fT (fun y=>Leg.tot y) l:Nat)=v-((Leg.tot z+fT (fun y=>Leg.tot y) l:Nat):Int):=by omega
   rw[e]
theorem yw (l:List Leg) (v:Int) (h0:0≤v) (h1:v<4294967296) (hw:l.length≤9223372036854775807∧∀y∈l,Leg.wd y):iZ G.real TE.real l v=dM v (l.length+fT (fun y=>Leg.tot y) l):=by
 unfold iZ
 have hw1:=hw.1
 simp only[iY,kA,eK]
 rw[w64 (by omega) (by omega)]
 simp only[al,bc]
 unfold dM
 by_cases h:v-l.length<0
 ·rw[if_pos h,if_pos (by omega)]
 ·rw[if_neg h,sO l _ (by omega) (by omega) hw.2]
  have e:v-(l.length:Int)-(fT (fun y=>Leg.tot y) l:Nat)=v-((l.length+fT (fun y=>Leg.tot y) l:Nat):Int):=by omega
  rw[e]
  split<;>rfl
theorem rk (l:List Int):∀(k:Nat) (w:List Int),w.length=k+l.length→w.length<4611686018427387904→cQ G.real TE.real l k w=some (w.take k++l):=by
 induction l with
 |nil=>intro k w h hb;rw[cQ,List.take_of_length_le (by simp at h;omega)];simp
 |cons z l ih=>
  intro k w h hb
  simp only[List.length_cons] at h
  have hk:k<w.length:=by omega
  rw[cQ]
  simp only[vU,d9,Int.toNat_natCast,bU]
  rw[af (by omega),ay (List.getElem?_eq_getElem hk),w64 (by omega) (by omega)]
  try simp only[bc]
  rw[show(k:Int)+1=((k+1:Nat):Int) by omega,ih (k+1) _ (by simp;omega) (by simpa using hb)]
  rw[List.take_add_one]
  simp[hk,List.take_set_of_le,List.append_assoc]
theorem wO (l:List Int) (h:l.length≤1048576):iM G.real TE.real l=some l:=by
 unfold iM
 simp only[nN,d9,Int.toNat_natCast,bc]
 rw[af (by omega),show(0:Int)=((0:Nat):Int) from rfl,rk l 0 _ (by simp) (by simp;omega)]
 simp
theorem sw (a:List Int) (l:List Int):∀(k:Nat),a.drop k=l→a.length<4611686018427387904→cR G.real TE.real a l k=some (.out ()):=by
 induction l with
 |nil=>intro k h hb;rw[cR]
 |cons z l ih=>
  intro k h hb
  have hk:k<a.length:=by
   have:=congrArg List.length h
   simp at this;omega
  have hz:a[k]?=some z:=by
   have:=congrArg (fun l=>l[0]?) h
   simpa using this
  rw[cR]
  simp only[d9,Int.toNat_natCast,bU]
  rw[ay hz]
  simp only[dO,zI,beq_self_eq_true,decide_true,cK]
  rw[w64 (by omega) (by omega),show(k:Int)+1=((k+1:Nat):Int) by omega]
  exact ih (k+1) (by rw[←List.drop_drop,h];rfl) hb
theorem yl (l:List Int) (h:l.length≤1048576):iv G.real TE.real l l=some true:=by
 unfold iv
 simp only[dO,decide_true,cK]
 rw[show(0:Int)=((0:Nat):Int) from rfl,sw l l 0 (by simp) (by omega)]
 rfl
theorem yb (l:List Int) (v:Int) (h0:0≤v) (h1:v<4294967296) (hw:l.length≤9223372036854775807):iU G.real TE.real l v=dM v l.length:=by
 unfold iU
 simp only[nN,kA,eK]
 rw[w64 (by omega) (by omega)]
 unfold dM
 by_cases h:v-l.length<0<;>simp[h]
theorem rq (x:Network) (h:Network.tot x≤1048576):cO G.real TE.real x=some x:=by
 unfold Network.tot at h
 simp only[cO,xq x.Legs (by omega),wO x.Off (by omega),ah,bc]
theorem lW (x:Network) (h:Network.tot x≤1048576):ei G.real TE.real x x=some true:=by
 unfold Network.tot at h
 simp[ei,wt x.Legs (by omega),yl x.Off (by omega)]
theorem rI (x:Network) (v:Int) (h0:0≤v) (h1:v<4294967296) (hw:Network.wd x):fm G.real TE.real x v=dM v (Network.tot x):=by
 unfold Network.wd at hw
 unfold fm Network.tot
 rw[yw x.Legs _ (by omega) (by omega) hw.1]
 try simp only[bc,eK,al]
 by_cases g0:dM (v) ((x.Legs.length+fT (fun y=>Leg.tot y) x.Legs))<0
 ·have q0:=lO g0;rw[if_pos g0];unfold dM;rw[if_pos (by omega)]
 have q0:=jw g0
 rw[if_neg g0,q0.1,show v-(((x.Legs.length+fT (fun y=>Leg.tot y) x.Legs):Nat):Int)=v-(((x.Legs.length+fT (fun y=>Leg.tot y) x.Legs):Nat):Int) by omega]
 rw[yb x.Off _ (by omega) (by omega) hw.2]
 try simp only[bc,eK,al]
 by_cases g1:dM (v-(((x.Legs.length+fT (fun y=>Leg.tot y) x.Legs):Nat):Int)) (x.Off.length)<0
 ·have q1:=lO g1;rw[if_pos g1];unfold dM;rw[if_pos (by omega)]
 ·have q1:=jw g1;rw[if_neg g1];try(rw[q1.1];unfold dM;rw[if_neg (by omega)];try omega)
theorem yJ (x:Trip):iC G.real TE.real x x=true:=by
 simp[iC]
theorem yh (x:Scan) (h:Scan.tot x≤1048576):iS G.real TE.real x x=true:=by
 unfold Scan.tot at h
 simp[iS,yJ x.Trip]
end Go.Vs
