/- Part of the proofs of this seat's laws: Hb. No condition. -/
import Derived.Test.YtilplaaijbpilaaGreatHa
import Derived.Test.YtilplaaijbpilaaGreatLaa
import Derived.Test.YtilplaaijbpilaaGreatLae
set_option linter.unusedVariables false
set_option linter.unusedSimpArgs false
set_option linter.unusedSectionVars false
namespace Go.Vs
open Go.IntWalk
set_option linter.unusedVariables false
set_option linter.unusedSimpArgs false
theorem Ec (x:Leg) (h:Leg.tot x≤1048576):qT G.real TE.real x=x:=by
 unfold Leg.tot at h
 rfl
theorem EL (x:Leg) (h:Leg.tot x≤1048576):oS G.real TE.real x x=true:=by
 unfold Leg.tot at h
 simp[oS]
theorem EM (x:Leg) (v:Int) (h0:0≤v) (h1:v<4294967296) (hw:Leg.wd x):oD G.real TE.real x v=dG v (Leg.tot x):=by
 unfold Leg.wd at hw
 unfold oD Leg.tot
 have hw0_:=hw.1
 try simp only[bY,uE,k8]
 rw[w64 (by omega) (by omega)]
 try simp only[bB,am]
 by_cases g0:v-((x.From.size:Nat):Int)<0
 ·rw[if_pos g0];unfold dG;rw[if_pos (by omega)]
 rw[if_neg g0,show v-((x.From.size:Nat):Int)=v-((x.From.size:Nat):Int) by omega]
 have hw1_:=hw.2
 try simp only[bY,uE,k8]
 rw[w64 (by omega) (by omega)]
 try simp only[bB,am]
 by_cases g1:v-((x.From.size:Nat):Int)-((x.To.size:Nat):Int)<0
 ·rw[if_pos g1];unfold dG;rw[if_pos (by omega)]
 ·rw[if_neg g1];unfold dG;rw[if_neg (by omega)];try omega
theorem xz (l:List Leg):∀(k:Nat) (w:List Leg),w.length=k+l.length→w.length<4611686018427387904→(∀y∈l,Leg.tot y≤1048576)→eQ G.real TE.real l k w=some (w.take k++l):=by
 induction l with
 |nil=>intro k w h hb hs;rw[eQ,List.take_of_length_le (by simp at h;omega)];simp
 |cons z l ih=>
  intro k w h hb hs
  simp only[List.length_cons] at h
  have hk:k<w.length:=by omega
  rw[eQ]
  simp only[Ec z (hs z (by simp)),az,kT,aQ,Int.toNat_natCast,bc]
  rw[ag (by omega),ar (List.getElem?_eq_getElem hk),w64 (by omega) (by omega)]
  try simp only[az]
  rw[show(k:Int)+1=((k+1:Nat):Int) by omega,ih (k+1) _ (by simp;omega) (by simpa using hb) (fun y hy=>hs y (by simp[hy]))]
  rw[List.take_add_one]
  simp[hk,List.take_set_of_le,List.append_assoc]
theorem CA (l:List Leg) (h:l.length+dL (fun y=>Leg.tot y) l≤1048576):mq G.real TE.real l=some l:=by
 unfold mq
 simp only[mz,aQ,Int.toNat_natCast,az]
 rw[ag (by omega),show(0:Int)=((0:Nat):Int) from rfl,xz l 0 _ (by simp) (by simp;omega) (fun y hy=>by have:=my (fun y=>Leg.tot y) hy;omega)]
 simp
theorem wO (a:List Leg) (l:List Leg):∀(k:Nat),a.drop k=l→a.length<4611686018427387904→(∀y∈l,Leg.tot y≤1048576)→eN G.real TE.real a l k=some (.out ()):=by
 induction l with
 |nil=>intro k h hb hs;rw[eN]
 |cons z l ih=>
  intro k h hb hs
  have hk:k<a.length:=by
   have:=congrArg List.length h
   simp at this;omega
  have hz:a[k]?=some z:=by
   have:=congrArg (fun l=>l[0]?) h
   simpa using this
  rw[eN]
  simp only[aQ,Int.toNat_natCast,bc]
  rw[ar hz]
  rw[EL z (hs z (by simp))]
  simp only[af,az,bd]
  rw[w64 (by omega) (by omega),show(k:Int)+1=((k+1:Nat):Int) by omega]
  exact ih (k+1) (by rw[←List.drop_drop,h];rfl) hb (fun y hy=>hs y (by simp[hy]))
theorem Cb (l:List Leg) (h:l.length+dL (fun y=>Leg.tot y) l≤1048576):mL G.real TE.real l l=some true:=by
 unfold mL
 simp only[cB,decide_true,bd]
 rw[show(0:Int)=((0:Nat):Int) from rfl,wO l l 0 (by simp) (by omega) (fun y hy=>by have:=my (fun y=>Leg.tot y) hy;omega)]
 rfl
theorem xK (l:List Leg):∀(v:Int),0≤v→v<4294967296→(∀y∈l,Leg.wd y)→eM G.real TE.real l v=if v-(dL (fun y=>Leg.tot y) l:Nat)<0 then .ret (-1) else .out (v-(dL (fun y=>Leg.tot y) l:Nat)):=by
 induction l with
 |nil=>
  intro v h0 h1 hw
  have hT:dL (fun y=>Leg.tot y) ([]:List Leg)=0:=rfl
  rw[eM,if_neg (by omega),hT];simp
 |cons z l ih=>
  intro v h0 h1 hw
  rw[eM]
  rw[EM z v h0 h1 (hw z (by simp))]
  have hT:dL (fun y=>Leg.tot y) (z::l)=Leg.tot z+dL (fun y=>Leg.tot y) l:=by simp[dL]
  simp only[az,bB,am]
  by_cases h:dG v (Leg.tot z)<0
  ·have:=mN h
   rw[if_pos h,if_pos (by omega)]
  ·have:=gH h
   rw[if_neg h,ih _ (by omega) (by omega) (fun y hy=>hw y (by simp[hy])),this.1,hT]
   have e:v-(Leg.tot z:Nat)-(dL (fun y=>Leg.tot y) l:Nat)=v-((Leg.tot z+dL (fun y=>Leg.tot y) l:Nat):Int):=by omega
   rw[e]
theorem BQ (l:List Leg) (v:Int) (h0:0≤v) (h1:v<4294967296) (hw:l.length≤9223372036854775807∧∀y∈l,Leg.wd y):md G.real TE.real l v=dG v (l.length+dL (fun y=>Leg.tot y) l):=by
 unfold md
 have hw1:=hw.1
 simp only[mz,k8,bB]
 rw[w64 (by omega) (by omega)]
 simp only[am,az]
 unfold dG
 by_cases h:v-l.length<0
 ·rw[if_pos h,if_pos (by omega)]
 ·rw[if_neg h,xK l _ (by omega) (by omega) hw.2]
  have e:v-(l.length:Int)-(dL (fun y=>Leg.tot y) l:Nat)=v-((l.length+dL (fun y=>Leg.tot y) l:Nat):Int):=by omega
  rw[e]
  split<;>rfl
theorem wD (l:List Int):∀(k:Nat) (w:List Int),w.length=k+l.length→w.length<4611686018427387904→eK G.real TE.real l k w=some (w.take k++l):=by
 induction l with
 |nil=>intro k w h hb;rw[eK,List.take_of_length_le (by simp at h;omega)];simp
 |cons z l ih=>
  intro k w h hb
  simp only[List.length_cons] at h
  have hk:k<w.length:=by omega
  rw[eK]
  simp only[dT,aQ,Int.toNat_natCast,bc]
  rw[ag (by omega),ar (List.getElem?_eq_getElem hk),w64 (by omega) (by omega)]
  try simp only[az]
  rw[show(k:Int)+1=((k+1:Nat):Int) by omega,ih (k+1) _ (by simp;omega) (by simpa using hb)]
  rw[List.take_add_one]
  simp[hk,List.take_set_of_le,List.append_assoc]
theorem Ce (l:List Int) (h:l.length≤1048576):lV G.real TE.real l=some l:=by
 unfold lV
 simp only[sq,aQ,Int.toNat_natCast,az]
 rw[ag (by omega),show(0:Int)=((0:Nat):Int) from rfl,wD l 0 _ (by simp) (by simp;omega)]
 simp
theorem xk (a:List Int) (l:List Int):∀(k:Nat),a.drop k=l→a.length<4611686018427387904→eL G.real TE.real a l k=some (.out ()):=by
 induction l with
 |nil=>intro k h hb;rw[eL]
 |cons z l ih=>
  intro k h hb
  have hk:k<a.length:=by
   have:=congrArg List.length h
   simp at this;omega
  have hz:a[k]?=some z:=by
   have:=congrArg (fun l=>l[0]?) h
   simpa using this
  rw[eL]
  simp only[aQ,Int.toNat_natCast,bc]
  rw[ar hz]
  simp only[cB,oE,beq_self_eq_true,decide_true,bd]
  rw[w64 (by omega) (by omega),show(k:Int)+1=((k+1:Nat):Int) by omega]
  exact ih (k+1) (by rw[←List.drop_drop,h];rfl) hb
theorem DQ (l:List Int) (h:l.length≤1048576):mw G.real TE.real l l=some true:=by
 unfold mw
 simp only[cB,decide_true,bd]
 rw[show(0:Int)=((0:Nat):Int) from rfl,xk l l 0 (by simp) (by omega)]
 rfl
theorem CZ (l:List Int) (v:Int) (h0:0≤v) (h1:v<4294967296) (hw:l.length≤9223372036854775807):lQ G.real TE.real l v=dG v l.length:=by
 unfold lQ
 simp only[sq,k8,bB]
 rw[w64 (by omega) (by omega)]
 unfold dG
 by_cases h:v-l.length<0<;>simp[h]
theorem qg (x:Network) (h:Network.tot x≤1048576):cD G.real TE.real x=some x:=by
 unfold Network.tot at h
 simp only[cD,CA x.Legs (by omega),Ce x.Off (by omega),af,az]
theorem qy (x:Network) (h:Network.tot x≤1048576):gv G.real TE.real x x=some true:=by
 unfold Network.tot at h
 simp[gv,Cb x.Legs (by omega),DQ x.Off (by omega)]
theorem qz (x:Network) (v:Int) (h0:0≤v) (h1:v<4294967296) (hw:Network.wd x):gD G.real TE.real x v=dG v (Network.tot x):=by
 unfold Network.wd at hw
 unfold gD Network.tot
 rw[BQ x.Legs _ (by omega) (by omega) hw.1]
 try simp only[az,bB,am]
 by_cases g0:dG (v) ((x.Legs.length+dL (fun y=>Leg.tot y) x.Legs))<0
 ·have q0:=mN g0;rw[if_pos g0];unfold dG;rw[if_pos (by omega)]
 have q0:=gH g0
 rw[if_neg g0,q0.1,show v-(((x.Legs.length+dL (fun y=>Leg.tot y) x.Legs):Nat):Int)=v-(((x.Legs.length+dL (fun y=>Leg.tot y) x.Legs):Nat):Int) by omega]
 rw[CZ x.Off _ (by omega) (by omega) hw.2]
 try simp only[az,bB,am]
 by_cases g1:dG (v-(((x.Legs.length+dL (fun y=>Leg.tot y) x.Legs):Nat):Int)) (x.Off.length)<0
 ·have q1:=mN g1;rw[if_pos g1];unfold dG;rw[if_pos (by omega)]
 ·have q1:=gH g1;rw[if_neg g1];try(rw[q1.1];unfold dG;rw[if_neg (by omega)];try omega)
theorem BT (x:Trip):n9 G.real TE.real x=x:=by
 rfl
theorem wF (x:Trip):kD G.real TE.real x x=true:=by
 simp[kD]
theorem Dq (x:Scan) (h:Scan.tot x≤1048576):mf G.real TE.real x=x:=by
 unfold Scan.tot at h
 simp only[mf,BT x.Trip,af,az]
theorem CY (x:Scan) (h:Scan.tot x≤1048576):mc G.real TE.real x x=true:=by
 unfold Scan.tot at h
 simp[mc,wF x.Trip]
theorem Dx (x:Scan) (v:Int) (h0:0≤v) (h1:v<4294967296) (hw:Scan.wd x):lX G.real TE.real x v=dG v (Scan.tot x):=by
 unfold Scan.wd at hw
 unfold lX Scan.tot
 have hw0_:=hw
 try simp only[bY,uE,k8]
 rw[w64 (by omega) (by omega)]
 try simp only[bB,am]
 by_cases g0:v-((x.Place.size:Nat):Int)<0
 ·rw[if_pos g0];unfold dG;rw[if_pos (by omega)]
 ·rw[if_neg g0];unfold dG;rw[if_neg (by omega)];try omega
theorem vw (l:List Scan):∀(k:Nat) (w:List Scan),w.length=k+l.length→w.length<4611686018427387904→(∀y∈l,Scan.tot y≤1048576)→d8 G.real TE.real l k w=some (w.take k++l):=by
 induction l with
 |nil=>intro k w h hb hs;rw[d8,List.take_of_length_le (by simp at h;omega)];simp
 |cons z l ih=>
  intro k w h hb hs
  simp only[List.length_cons] at h
  have hk:k<w.length:=by omega
  rw[d8]
  simp only[Dq z (hs z (by simp)),az,bT,aQ,Int.toNat_natCast,bc]
  rw[ag (by omega),ar (List.getElem?_eq_getElem hk),w64 (by omega) (by omega)]
  try simp only[az]
  rw[show(k:Int)+1=((k+1:Nat):Int) by omega,ih (k+1) _ (by simp;omega) (by simpa using hb) (fun y hy=>hs y (by simp[hy]))]
  rw[List.take_add_one]
  simp[hk,List.take_set_of_le,List.append_assoc]
theorem ug (l:List Scan) (h:l.length+dL (fun y=>Scan.tot y) l≤1048576):dO G.real TE.real l=some l:=by
 unfold dO
 simp only[pp,aQ,Int.toNat_natCast,az]
 rw[ag (by omega),show(0:Int)=((0:Nat):Int) from rfl,vw l 0 _ (by simp) (by simp;omega) (fun y hy=>by have:=my (fun y=>Scan.tot y) hy;omega)]
 simp
theorem vc (a:List Scan) (l:List Scan):∀(k:Nat),a.drop k=l→a.length<4611686018427387904→(∀y∈l,Scan.tot y≤1048576)→eh G.real TE.real a l k=some (.out ()):=by
 induction l with
 |nil=>intro k h hb hs;rw[eh]
 |cons z l ih=>
  intro k h hb hs
  have hk:k<a.length:=by
   have:=congrArg List.length h
   simp at this;omega
  have hz:a[k]?=some z:=by
   have:=congrArg (fun l=>l[0]?) h
   simpa using this
  rw[eh]
  simp only[aQ,Int.toNat_natCast,bc]
  rw[ar hz]
  rw[CY z (hs z (by simp))]
  simp only[af,az,bd]
  rw[w64 (by omega) (by omega),show(k:Int)+1=((k+1:Nat):Int) by omega]
  exact ih (k+1) (by rw[←List.drop_drop,h];rfl) hb (fun y hy=>hs y (by simp[hy]))
theorem uk (l:List Scan) (h:l.length+dL (fun y=>Scan.tot y) l≤1048576):ji G.real TE.real l l=some true:=by
 unfold ji
 simp only[cB,decide_true,bd]
 rw[show(0:Int)=((0:Nat):Int) from rfl,vc l l 0 (by simp) (by omega) (fun y hy=>by have:=my (fun y=>Scan.tot y) hy;omega)]
 rfl
theorem uT (l:List Scan):∀(v:Int),0≤v→v<4294967296→(∀y∈l,Scan.wd y)→ed G.real TE.real l v=if v-(dL (fun y=>Scan.tot y) l:Nat)<0 then .ret (-1) else .out (v-(dL (fun y=>Scan.tot y) l:Nat)):=by
 induction l with
 |nil=>
  intro v h0 h1 hw
  have hT:dL (fun y=>Scan.tot y) ([]:List Scan)=0:=rfl
  rw[ed,if_neg (by omega),hT];simp
 |cons z l ih=>
  intro v h0 h1 hw
  rw[ed]
  rw[Dx z v h0 h1 (hw z (by simp))]
  have hT:dL (fun y=>Scan.tot y) (z::l)=Scan.tot z+dL (fun y=>Scan.tot y) l:=by simp[dL]
  simp only[az,bB,am]
  by_cases h:dG v (Scan.tot z)<0
  ·have:=mN h
   rw[if_pos h,if_pos (by omega)]
  ·have:=gH h
   rw[if_neg h,ih _ (by omega) (by omega) (fun y hy=>hw y (by simp[hy])),this.1,hT]
   have e:v-(Scan.tot z:Nat)-(dL (fun y=>Scan.tot y) l:Nat)=v-((Scan.tot z+dL (fun y=>Scan.tot y) l:Nat):Int):=by omega
   rw[e]
theorem tG (l:List Scan) (v:Int) (h0:0≤v) (h1:v<4294967296) (hw:l.length≤9223372036854775807∧∀y∈l,Scan.wd y):jn G.real TE.real l v=dG v (l.length+dL (fun y=>Scan.tot y) l):=by
 unfold jn
 have hw1:=hw.1
 simp only[pp,k8,bB]
 rw[w64 (by omega) (by omega)]
 simp only[am,az]
 unfold dG
 by_cases h:v-l.length<0
 ·rw[if_pos h,if_pos (by omega)]
 ·rw[if_neg h,uT l _ (by omega) (by omega) hw.2]
  have e:v-(l.length:Int)-(dL (fun y=>Scan.tot y) l:Nat)=v-((l.length+dL (fun y=>Scan.tot y) l:Nat):Int):=by omega
  rw[e]
  split<;>rfl
theorem rx (a:List ByteArray) (l:List ByteArray):∀(k:Nat),a.drop k=l→a.length<4611686018427387904→c6 G.real TE.real a l k=some (.out ()):=by
 induction l with
 |nil=>intro k h hb;rw[c6]
 |cons z l ih=>
  intro k h hb
  have hk:k<a.length:=by
   have:=congrArg List.length h
   simp at this;omega
  have hz:a[k]?=some z:=by
   have:=congrArg (fun l=>l[0]?) h
   simpa using this
  rw[c6]
  simp only[aQ,Int.toNat_natCast,bc]
  rw[ar hz]
  simp only[cB,oE,beq_self_eq_true,decide_true,bd]
  rw[w64 (by omega) (by omega),show(k:Int)+1=((k+1:Nat):Int) by omega]
  exact ih (k+1) (by rw[←List.drop_drop,h];rfl) hb
theorem qc (l:List ByteArray) (h:l.length+dL (fun y=>y.size) l≤1048576):eP G.real TE.real l l=some true:=by
 unfold eP
 simp only[cB,decide_true,bd]
 rw[show(0:Int)=((0:Nat):Int) from rfl,rx l l 0 (by simp) (by omega)]
 rfl
theorem uN (a:List Trip) (l:List Trip):∀(k:Nat),a.drop k=l→a.length<4611686018427387904→dV G.real TE.real a l k=some (.out ()):=by
 induction l with
 |nil=>intro k h hb;rw[dV]
 |cons z l ih=>
  intro k h hb
  have hk:k<a.length:=by
   have:=congrArg List.length h
   simp at this;omega
  have hz:a[k]?=some z:=by
   have:=congrArg (fun l=>l[0]?) h
   simpa using this
  rw[dV]
  simp only[aQ,Int.toNat_natCast,bc]
  rw[ar hz]
  simp only[wF,af,az,bd]
  rw[w64 (by omega) (by omega),show(k:Int)+1=((k+1:Nat):Int) by omega]
  exact ih (k+1) (by rw[←List.drop_drop,h];rfl) hb
theorem AY (l:List Trip) (h:l.length≤1048576):kO G.real TE.real l l=some true:=by
 unfold kO
 simp only[cB,decide_true,bd]
 rw[show(0:Int)=((0:Nat):Int) from rfl,uN l l 0 (by simp) (by omega)]
 rfl
theorem yd (x:Belief) (h:Belief.tot x≤1048576):gq G.real TE.real x x=some true:=by
 unfold Belief.tot at h
 simp[gq,qc x.Places (by omega),AY x.Rides (by omega)]
end Go.Vs
