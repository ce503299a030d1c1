/- Part of the proofs of this seat's laws: Hb. No condition. -/
import Derived.Test.YtdgkokanccedkaaGreatDoorHa
import Derived.Test.YtdgkokanccedkaaGreatDoorLaa
import Derived.Test.YtdgkokanccedkaaGreatDoorLab
set_option linter.unusedVariables false
set_option linter.unusedSimpArgs false
set_option linter.unusedSectionVars false
namespace Go.Vs
open Go.IntWalk
set_option linter.unusedVariables false
set_option linter.unusedSimpArgs false
theorem tV (x:Leg) (h:Leg.tot x≤1048576):jN G.real TE.real x=x:=by
 unfold Leg.tot at h
 rfl
theorem ue (x:Leg) (h:Leg.tot x≤1048576):hZ G.real TE.real x x=true:=by
 unfold Leg.tot at h
 simp[hZ]
theorem uq (x:Leg) (v:Int) (h0:0≤v) (h1:v<4294967296) (hw:Leg.wd x):ib G.real TE.real x v=bY v (Leg.tot x):=by
 unfold Leg.wd at hw
 unfold ib Leg.tot
 have hw0_:=hw.1
 try simp only[hB,gC,jj]
 rw[w64 (by omega) (by omega)]
 try simp only[fq,aE]
 by_cases g0:v-((x.From.size:Nat):Int)<0
 ·rw[if_pos g0];unfold bY;rw[if_pos (by omega)]
 rw[if_neg g0,show v-((x.From.size:Nat):Int)=v-((x.From.size:Nat):Int) by omega]
 have hw1_:=hw.2
 try simp only[hB,gC,jj]
 rw[w64 (by omega) (by omega)]
 try simp only[fq,aE]
 by_cases g1:v-((x.From.size:Nat):Int)-((x.To.size:Nat):Int)<0
 ·rw[if_pos g1];unfold bY;rw[if_pos (by omega)]
 ·rw[if_neg g1];unfold bY;rw[if_neg (by omega)];try omega
theorem n9 (l:List Leg):∀(k:Nat) (w:List Leg),w.length=k+l.length→w.length<4611686018427387904→(∀y∈l,Leg.tot y≤1048576)→bX G.real TE.real l k w=some (w.take k++l):=by
 induction l with
 |nil=>intro k w h hb hs;rw[bX,List.take_of_length_le (by simp at h;omega)];simp
 |cons z l ih=>
  intro k w h hb hs
  simp only[List.length_cons] at h
  have hk:k<w.length:=by omega
  rw[bX]
  simp only[tV z (hs z (by simp)),bp,qB,dL,Int.toNat_natCast,dz]
  rw[ag (by omega),bI (List.getElem?_eq_getElem hk),w64 (by omega) (by omega)]
  try simp only[bp]
  rw[show(k:Int)+1=((k+1:Nat):Int) by omega,ih (k+1) _ (by simp;omega) (by simpa using hb) (fun y hy=>hs y (by simp[hy]))]
  rw[List.take_add_one]
  simp[hk,List.take_set_of_le,List.append_assoc]
theorem rW (l:List Leg) (h:l.length+eu (fun y=>Leg.tot y) l≤1048576):fG G.real TE.real l=some l:=by
 unfold fG
 simp only[fy,dL,Int.toNat_natCast,bp]
 rw[ag (by omega),show(0:Int)=((0:Nat):Int) from rfl,n9 l 0 _ (by simp) (by simp;omega) (fun y hy=>by have:=lj (fun y=>Leg.tot y) hy;omega)]
 simp
theorem nO (a:List Leg) (l:List Leg):∀(k:Nat),a.drop k=l→a.length<4611686018427387904→(∀y∈l,Leg.tot y≤1048576)→bW G.real TE.real a l k=some (.out ()):=by
 induction l with
 |nil=>intro k h hb hs;rw[bW]
 |cons z l ih=>
  intro k h hb hs
  have hk:k<a.length:=by
   have:=congrArg List.length h
   simp at this;omega
  have hz:a[k]?=some z:=by
   have:=congrArg (fun l=>l[0]?) h
   simpa using this
  rw[bW]
  simp only[dL,Int.toNat_natCast,dz]
  rw[bI hz]
  rw[ue z (hs z (by simp))]
  simp only[al,bp,eK]
  rw[w64 (by omega) (by omega),show(k:Int)+1=((k+1:Nat):Int) by omega]
  exact ih (k+1) (by rw[←List.drop_drop,h];rfl) hb (fun y hy=>hs y (by simp[hy]))
theorem tk (l:List Leg) (h:l.length+eu (fun y=>Leg.tot y) l≤1048576):fO G.real TE.real l l=some true:=by
 unfold fO
 simp only[fF,decide_true,eK]
 rw[show(0:Int)=((0:Nat):Int) from rfl,nO l l 0 (by simp) (by omega) (fun y hy=>by have:=lj (fun y=>Leg.tot y) hy;omega)]
 rfl
theorem nV (l:List Leg):∀(v:Int),0≤v→v<4294967296→(∀y∈l,Leg.wd y)→bT G.real TE.real l v=if v-(eu (fun y=>Leg.tot y) l:Nat)<0 then .ret (-1) else .out (v-(eu (fun y=>Leg.tot y) l:Nat)):=by
 induction l with
 |nil=>
  intro v h0 h1 hw
  have hT:eu (fun y=>Leg.tot y) ([]:List Leg)=0:=rfl
  rw[bT,if_neg (by omega),hT];simp
 |cons z l ih=>
  intro v h0 h1 hw
  rw[bT]
  rw[uq z v h0 h1 (hw z (by simp))]
  have hT:eu (fun y=>Leg.tot y) (z::l)=Leg.tot z+eu (fun y=>Leg.tot y) l:=by simp[eu]
  simp only[bp,fq,aE]
  by_cases h:bY v (Leg.tot z)<0
  ·have:=iC h
   rw[if_pos h,if_pos (by omega)]
  ·have:=eN h
   rw[if_neg h,ih _ (by omega) (by omega) (fun y hy=>hw y (by simp[hy])),this.1,hT]
   have e:v-(Leg.tot z:Nat)-(eu (fun y=>Leg.tot y) l:Nat)=v-((Leg.tot z+eu (fun y=>Leg.tot y) l:Nat):Int):=by omega
   rw[e]
theorem si (l:List Leg) (v:Int) (h0:0≤v) (h1:v<4294967296) (hw:l.length≤9223372036854775807∧∀y∈l,Leg.wd y):fP G.real TE.real l v=bY v (l.length+eu (fun y=>Leg.tot y) l):=by
 unfold fP
 have hw1:=hw.1
 simp only[fy,jj,fq]
 rw[w64 (by omega) (by omega)]
 simp only[aE,bp]
 unfold bY
 by_cases h:v-l.length<0
 ·rw[if_pos h,if_pos (by omega)]
 ·rw[if_neg h,nV l _ (by omega) (by omega) hw.2]
  have e:v-(l.length:Int)-(eu (fun y=>Leg.tot y) l:Nat)=v-((l.length+eu (fun y=>Leg.tot y) l:Nat):Int):=by omega
  rw[e]
  split<;>rfl
theorem ot (l:List Int):∀(k:Nat) (w:List Int),w.length=k+l.length→w.length<4611686018427387904→bU G.real TE.real l k w=some (w.take k++l):=by
 induction l with
 |nil=>intro k w h hb;rw[bU,List.take_of_length_le (by simp at h;omega)];simp
 |cons z l ih=>
  intro k w h hb
  simp only[List.length_cons] at h
  have hk:k<w.length:=by omega
  rw[bU]
  simp only[qx,dL,Int.toNat_natCast,dz]
  rw[ag (by omega),bI (List.getElem?_eq_getElem hk),w64 (by omega) (by omega)]
  try simp only[bp]
  rw[show(k:Int)+1=((k+1:Nat):Int) by omega,ih (k+1) _ (by simp;omega) (by simpa using hb)]
  rw[List.take_add_one]
  simp[hk,List.take_set_of_le,List.append_assoc]
theorem sy (l:List Int) (h:l.length≤1048576):fZ G.real TE.real l=some l:=by
 unfold fZ
 simp only[kg,dL,Int.toNat_natCast,bp]
 rw[ag (by omega),show(0:Int)=((0:Nat):Int) from rfl,ot l 0 _ (by simp) (by simp;omega)]
 simp
theorem oM (a:List Int) (l:List Int):∀(k:Nat),a.drop k=l→a.length<4611686018427387904→bR G.real TE.real a l k=some (.out ()):=by
 induction l with
 |nil=>intro k h hb;rw[bR]
 |cons z l ih=>
  intro k h hb
  have hk:k<a.length:=by
   have:=congrArg List.length h
   simp at this;omega
  have hz:a[k]?=some z:=by
   have:=congrArg (fun l=>l[0]?) h
   simpa using this
  rw[bR]
  simp only[dL,Int.toNat_natCast,dz]
  rw[bI hz]
  simp only[fF,uI,beq_self_eq_true,decide_true,eK]
  rw[w64 (by omega) (by omega),show(k:Int)+1=((k+1:Nat):Int) by omega]
  exact ih (k+1) (by rw[←List.drop_drop,h];rfl) hb
theorem rV (l:List Int) (h:l.length≤1048576):fv G.real TE.real l l=some true:=by
 unfold fv
 simp only[fF,decide_true,eK]
 rw[show(0:Int)=((0:Nat):Int) from rfl,oM l l 0 (by simp) (by omega)]
 rfl
theorem tt (l:List Int) (v:Int) (h0:0≤v) (h1:v<4294967296) (hw:l.length≤9223372036854775807):fW G.real TE.real l v=bY v l.length:=by
 unfold fW
 simp only[kg,jj,fq]
 rw[w64 (by omega) (by omega)]
 unfold bY
 by_cases h:v-l.length<0<;>simp[h]
theorem oF (x:Network) (h:Network.tot x≤1048576):cr G.real TE.real x=some x:=by
 unfold Network.tot at h
 simp only[cr,rW x.Legs (by omega),sy x.Off (by omega),al,bp]
theorem nZ (x:Network) (h:Network.tot x≤1048576):dA G.real TE.real x x=some true:=by
 unfold Network.tot at h
 simp[dA,tk x.Legs (by omega),rV x.Off (by omega)]
theorem nC (x:Network) (v:Int) (h0:0≤v) (h1:v<4294967296) (hw:Network.wd x):dG G.real TE.real x v=bY v (Network.tot x):=by
 unfold Network.wd at hw
 unfold dG Network.tot
 rw[si x.Legs _ (by omega) (by omega) hw.1]
 try simp only[bp,fq,aE]
 by_cases g0:bY (v) ((x.Legs.length+eu (fun y=>Leg.tot y) x.Legs))<0
 ·have q0:=iC g0;rw[if_pos g0];unfold bY;rw[if_pos (by omega)]
 have q0:=eN g0
 rw[if_neg g0,q0.1,show v-(((x.Legs.length+eu (fun y=>Leg.tot y) x.Legs):Nat):Int)=v-(((x.Legs.length+eu (fun y=>Leg.tot y) x.Legs):Nat):Int) by omega]
 rw[tt x.Off _ (by omega) (by omega) hw.2]
 try simp only[bp,fq,aE]
 by_cases g1:bY (v-(((x.Legs.length+eu (fun y=>Leg.tot y) x.Legs):Nat):Int)) (x.Off.length)<0
 ·have q1:=iC g1;rw[if_pos g1];unfold bY;rw[if_pos (by omega)]
 ·have q1:=eN g1;rw[if_neg g1];try(rw[q1.1];unfold bY;rw[if_neg (by omega)];try omega)
theorem s7 (x:Trip):iu G.real TE.real x=x:=by
 rfl
theorem sD (x:Scan) (h:Scan.tot x≤1048576):eI G.real TE.real x=x:=by
 unfold Scan.tot at h
 simp only[eI,s7 x.Trip,al,bp]
theorem sz (x:Scan) (v:Int) (h0:0≤v) (h1:v<4294967296) (hw:Scan.wd x):fX G.real TE.real x v=bY v (Scan.tot x):=by
 unfold Scan.wd at hw
 unfold fX Scan.tot
 have hw0_:=hw
 try simp only[hB,gC,jj]
 rw[w64 (by omega) (by omega)]
 try simp only[fq,aE]
 by_cases g0:v-((x.Place.size:Nat):Int)<0
 ·rw[if_pos g0];unfold bY;rw[if_pos (by omega)]
 ·rw[if_neg g0];unfold bY;rw[if_neg (by omega)];try omega
end Go.Vs
