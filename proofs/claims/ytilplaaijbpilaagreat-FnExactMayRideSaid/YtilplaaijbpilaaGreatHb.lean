/- Part of the proofs of this seat's laws: Hb. No condition. -/
import Derived.Test.YtilplaaijbpilaaGreatHa
import Derived.Test.YtilplaaijbpilaaGreatLaa
import Derived.Test.YtilplaaijbpilaaGreatLab
set_option linter.unusedVariables false
set_option linter.unusedSimpArgs false
set_option linter.unusedSectionVars false
namespace Go.Vs
open Go.IntWalk
set_option linter.unusedVariables false
set_option linter.unusedSimpArgs false
theorem FT (x:Leg) (h:Leg.tot x≤1048576):sT G.real TE.real x=x:=by
 unfold Leg.tot at h
 rfl
theorem F6 (x:Leg) (h:Leg.tot x≤1048576):qr G.real TE.real x x=true:=by
 unfold Leg.tot at h
 simp[qr]
theorem Fb (x:Leg) (v:Int) (h0:0≤v) (h1:v<4294967296) (hw:Leg.wd x):qB G.real TE.real x v=bA v (Leg.tot x):=by
 unfold Leg.wd at hw
 unfold qB Leg.tot
 have hw0_:=hw.1
 try simp only[cg,wS,kN]
 rw[w64 (by omega) (by omega)]
 try simp only[bv,ao]
 by_cases g0:v-((x.From.size:Nat):Int)<0
 ·rw[if_pos g0];unfold bA;rw[if_pos (by omega)]
 rw[if_neg g0,show v-((x.From.size:Nat):Int)=v-((x.From.size:Nat):Int) by omega]
 have hw1_:=hw.2
 try simp only[cg,wS,kN]
 rw[w64 (by omega) (by omega)]
 try simp only[bv,ao]
 by_cases g1:v-((x.From.size:Nat):Int)-((x.To.size:Nat):Int)<0
 ·rw[if_pos g1];unfold bA;rw[if_pos (by omega)]
 ·rw[if_neg g1];unfold bA;rw[if_neg (by omega)];try omega
theorem xR (l:List Leg):∀(k:Nat) (w:List Leg),w.length=k+l.length→w.length<4611686018427387904→(∀y∈l,Leg.tot y≤1048576)→fG G.real TE.real l k w=some (w.take k++l):=by
 induction l with
 |nil=>intro k w h hb hs;rw[fG,List.take_of_length_le (by simp at h;omega)];simp
 |cons z l ih=>
  intro k w h hb hs
  simp only[List.length_cons] at h
  have hk:k<w.length:=by omega
  rw[fG]
  simp only[FT z (hs z (by simp)),aA,my,aZ,Int.toNat_natCast,bm]
  rw[aj (by omega),az (List.getElem?_eq_getElem hk),w64 (by omega) (by omega)]
  try simp only[aA]
  rw[show(k:Int)+1=((k+1:Nat):Int) by omega,ih (k+1) _ (by simp;omega) (by simpa using hb) (fun y hy=>hs y (by simp[hy]))]
  rw[List.take_add_one]
  simp[hk,List.take_set_of_le,List.append_assoc]
theorem DZ (l:List Leg) (h:l.length+bL (fun y=>Leg.tot y) l≤1048576):n7 G.real TE.real l=some l:=by
 unfold n7
 simp only[om,aZ,Int.toNat_natCast,aA]
 rw[aj (by omega),show(0:Int)=((0:Nat):Int) from rfl,xR l 0 _ (by simp) (by simp;omega) (fun y hy=>by have:=mz (fun y=>Leg.tot y) hy;omega)]
 simp
theorem ye (a:List Leg) (l:List Leg):∀(k:Nat),a.drop k=l→a.length<4611686018427387904→(∀y∈l,Leg.tot y≤1048576)→fF G.real TE.real a l k=some (.out ()):=by
 induction l with
 |nil=>intro k h hb hs;rw[fF]
 |cons z l ih=>
  intro k h hb hs
  have hk:k<a.length:=by
   have:=congrArg List.length h
   simp at this;omega
  have hz:a[k]?=some z:=by
   have:=congrArg (fun l=>l[0]?) h
   simpa using this
  rw[fF]
  simp only[aZ,Int.toNat_natCast,bm]
  rw[az hz]
  rw[F6 z (hs z (by simp))]
  simp only[ag,aA,ba]
  rw[w64 (by omega) (by omega),show(k:Int)+1=((k+1:Nat):Int) by omega]
  exact ih (k+1) (by rw[←List.drop_drop,h];rfl) hb (fun y hy=>hs y (by simp[hy]))
theorem EV (l:List Leg) (h:l.length+bL (fun y=>Leg.tot y) l≤1048576):nP G.real TE.real l l=some true:=by
 unfold nP
 simp only[co,decide_true,ba]
 rw[show(0:Int)=((0:Nat):Int) from rfl,ye l l 0 (by simp) (by omega) (fun y hy=>by have:=mz (fun y=>Leg.tot y) hy;omega)]
 rfl
theorem xL (l:List Leg):∀(v:Int),0≤v→v<4294967296→(∀y∈l,Leg.wd y)→fM G.real TE.real l v=if v-(bL (fun y=>Leg.tot y) l:Nat)<0 then .ret (-1) else .out (v-(bL (fun y=>Leg.tot y) l:Nat)):=by
 induction l with
 |nil=>
  intro v h0 h1 hw
  have hT:bL (fun y=>Leg.tot y) ([]:List Leg)=0:=rfl
  rw[fM,if_neg (by omega),hT];simp
 |cons z l ih=>
  intro v h0 h1 hw
  rw[fM]
  rw[Fb z v h0 h1 (hw z (by simp))]
  have hT:bL (fun y=>Leg.tot y) (z::l)=Leg.tot z+bL (fun y=>Leg.tot y) l:=by simp[bL]
  simp only[aA,bv,ao]
  by_cases h:bA v (Leg.tot z)<0
  ·have:=oR h
   rw[if_pos h,if_pos (by omega)]
  ·have:=a9 h
   rw[if_neg h,ih _ (by omega) (by omega) (fun y hy=>hw y (by simp[hy])),this.1,hT]
   have e:v-(Leg.tot z:Nat)-(bL (fun y=>Leg.tot y) l:Nat)=v-((Leg.tot z+bL (fun y=>Leg.tot y) l:Nat):Int):=by omega
   rw[e]
theorem DM (l:List Leg) (v:Int) (h0:0≤v) (h1:v<4294967296) (hw:l.length≤9223372036854775807∧∀y∈l,Leg.wd y):oh G.real TE.real l v=bA v (l.length+bL (fun y=>Leg.tot y) l):=by
 unfold oh
 have hw1:=hw.1
 simp only[om,kN,bv]
 rw[w64 (by omega) (by omega)]
 simp only[ao,aA]
 unfold bA
 by_cases h:v-l.length<0
 ·rw[if_pos h,if_pos (by omega)]
 ·rw[if_neg h,xL l _ (by omega) (by omega) hw.2]
  have e:v-(l.length:Int)-(bL (fun y=>Leg.tot y) l:Nat)=v-((l.length+bL (fun y=>Leg.tot y) l:Nat):Int):=by omega
  rw[e]
  split<;>rfl
theorem xd (l:List Int):∀(k:Nat) (w:List Int),w.length=k+l.length→w.length<4611686018427387904→fH G.real TE.real l k w=some (w.take k++l):=by
 induction l with
 |nil=>intro k w h hb;rw[fH,List.take_of_length_le (by simp at h;omega)];simp
 |cons z l ih=>
  intro k w h hb
  simp only[List.length_cons] at h
  have hk:k<w.length:=by omega
  rw[fH]
  simp only[eP,aZ,Int.toNat_natCast,bm]
  rw[aj (by omega),az (List.getElem?_eq_getElem hk),w64 (by omega) (by omega)]
  try simp only[aA]
  rw[show(k:Int)+1=((k+1:Nat):Int) by omega,ih (k+1) _ (by simp;omega) (by simpa using hb)]
  rw[List.take_add_one]
  simp[hk,List.take_set_of_le,List.append_assoc]
theorem D0 (l:List Int) (h:l.length≤1048576):oD G.real TE.real l=some l:=by
 unfold oD
 simp only[tB,aZ,Int.toNat_natCast,aA]
 rw[aj (by omega),show(0:Int)=((0:Nat):Int) from rfl,xd l 0 _ (by simp) (by simp;omega)]
 simp
theorem zi (a:List Int) (l:List Int):∀(k:Nat),a.drop k=l→a.length<4611686018427387904→fO G.real TE.real a l k=some (.out ()):=by
 induction l with
 |nil=>intro k h hb;rw[fO]
 |cons z l ih=>
  intro k h hb
  have hk:k<a.length:=by
   have:=congrArg List.length h
   simp at this;omega
  have hz:a[k]?=some z:=by
   have:=congrArg (fun l=>l[0]?) h
   simpa using this
  rw[fO]
  simp only[aZ,Int.toNat_natCast,bm]
  rw[az hz]
  simp only[co,qR,beq_self_eq_true,decide_true,ba]
  rw[w64 (by omega) (by omega),show(k:Int)+1=((k+1:Nat):Int) by omega]
  exact ih (k+1) (by rw[←List.drop_drop,h];rfl) hb
theorem yB (l:List Int) (h:l.length≤1048576):km G.real TE.real l l=some true:=by
 unfold km
 simp only[co,decide_true,ba]
 rw[show(0:Int)=((0:Nat):Int) from rfl,zi l l 0 (by simp) (by omega)]
 rfl
theorem DL (l:List Int) (v:Int) (h0:0≤v) (h1:v<4294967296) (hw:l.length≤9223372036854775807):nV G.real TE.real l v=bA v l.length:=by
 unfold nV
 simp only[tB,kN,bv]
 rw[w64 (by omega) (by omega)]
 unfold bA
 by_cases h:v-l.length<0<;>simp[h]
theorem dc (x:Network) (h:Network.tot x≤1048576):ar G.real TE.real x=some x:=by
 unfold Network.tot at h
 simp only[ar,DZ x.Legs (by omega),D0 x.Off (by omega),ag,aA]
theorem dd (x:Network) (h:Network.tot x≤1048576):be G.real TE.real x x=some true:=by
 unfold Network.tot at h
 simp[be,EV x.Legs (by omega),yB x.Off (by omega)]
theorem da (x:Network) (v:Int) (h0:0≤v) (h1:v<4294967296) (hw:Network.wd x):bD G.real TE.real x v=bA v (Network.tot x):=by
 unfold Network.wd at hw
 unfold bD Network.tot
 rw[DM x.Legs _ (by omega) (by omega) hw.1]
 try simp only[aA,bv,ao]
 by_cases g0:bA (v) ((x.Legs.length+bL (fun y=>Leg.tot y) x.Legs))<0
 ·have q0:=oR g0;rw[if_pos g0];unfold bA;rw[if_pos (by omega)]
 have q0:=a9 g0
 rw[if_neg g0,q0.1,show v-(((x.Legs.length+bL (fun y=>Leg.tot y) x.Legs):Nat):Int)=v-(((x.Legs.length+bL (fun y=>Leg.tot y) x.Legs):Nat):Int) by omega]
 rw[DL x.Off _ (by omega) (by omega) hw.2]
 try simp only[aA,bv,ao]
 by_cases g1:bA (v-(((x.Legs.length+bL (fun y=>Leg.tot y) x.Legs):Nat):Int)) (x.Off.length)<0
 ·have q1:=oR g1;rw[if_pos g1];unfold bA;rw[if_pos (by omega)]
 ·have q1:=a9 g1;rw[if_neg g1];try(rw[q1.1];unfold bA;rw[if_neg (by omega)];try omega)
theorem yV (x:Trip):mQ G.real TE.real x=x:=by
 rfl
theorem yj (x:Trip):mG G.real TE.real x x=true:=by
 simp[mG]
theorem Dg (x:Scan) (h:Scan.tot x≤1048576):n9 G.real TE.real x=x:=by
 unfold Scan.tot at h
 simp only[n9,yV x.Trip,ag,aA]
theorem sZ (x:Scan) (h:Scan.tot x≤1048576):lF G.real TE.real x x=true:=by
 unfold Scan.tot at h
 simp[lF,yj x.Trip]
theorem DE (x:Scan) (v:Int) (h0:0≤v) (h1:v<4294967296) (hw:Scan.wd x):oE G.real TE.real x v=bA v (Scan.tot x):=by
 unfold Scan.wd at hw
 unfold oE Scan.tot
 have hw0_:=hw
 try simp only[cg,wS,kN]
 rw[w64 (by omega) (by omega)]
 try simp only[bv,ao]
 by_cases g0:v-((x.Place.size:Nat):Int)<0
 ·rw[if_pos g0];unfold bA;rw[if_pos (by omega)]
 ·rw[if_neg g0];unfold bA;rw[if_neg (by omega)];try omega
theorem wy (l:List Scan):∀(k:Nat) (w:List Scan),w.length=k+l.length→w.length<4611686018427387904→(∀y∈l,Scan.tot y≤1048576)→eW G.real TE.real l k w=some (w.take k++l):=by
 induction l with
 |nil=>intro k w h hb hs;rw[eW,List.take_of_length_le (by simp at h;omega)];simp
 |cons z l ih=>
  intro k w h hb hs
  simp only[List.length_cons] at h
  have hk:k<w.length:=by omega
  rw[eW]
  simp only[Dg z (hs z (by simp)),aA,bx,aZ,Int.toNat_natCast,bm]
  rw[aj (by omega),az (List.getElem?_eq_getElem hk),w64 (by omega) (by omega)]
  try simp only[aA]
  rw[show(k:Int)+1=((k+1:Nat):Int) by omega,ih (k+1) _ (by simp;omega) (by simpa using hb) (fun y hy=>hs y (by simp[hy]))]
  rw[List.take_add_one]
  simp[hk,List.take_set_of_le,List.append_assoc]
theorem eR (l:List Scan) (h:l.length+bL (fun y=>Scan.tot y) l≤1048576):ax G.real TE.real l=some l:=by
 unfold ax
 simp only[rG,aZ,Int.toNat_natCast,aA]
 rw[aj (by omega),show(0:Int)=((0:Nat):Int) from rfl,wy l 0 _ (by simp) (by simp;omega) (fun y hy=>by have:=mz (fun y=>Scan.tot y) hy;omega)]
 simp
theorem wD (a:List Scan) (l:List Scan):∀(k:Nat),a.drop k=l→a.length<4611686018427387904→(∀y∈l,Scan.tot y≤1048576)→e7 G.real TE.real a l k=some (.out ()):=by
 induction l with
 |nil=>intro k h hb hs;rw[e7]
 |cons z l ih=>
  intro k h hb hs
  have hk:k<a.length:=by
   have:=congrArg List.length h
   simp at this;omega
  have hz:a[k]?=some z:=by
   have:=congrArg (fun l=>l[0]?) h
   simpa using this
  rw[e7]
  simp only[aZ,Int.toNat_natCast,bm]
  rw[az hz]
  rw[sZ z (hs z (by simp))]
  simp only[ag,aA,ba]
  rw[w64 (by omega) (by omega),show(k:Int)+1=((k+1:Nat):Int) by omega]
  exact ih (k+1) (by rw[←List.drop_drop,h];rfl) hb (fun y hy=>hs y (by simp[hy]))
theorem dk (l:List Scan) (h:l.length+bL (fun y=>Scan.tot y) l≤1048576):aT G.real TE.real l l=some true:=by
 unfold aT
 simp only[co,decide_true,ba]
 rw[show(0:Int)=((0:Nat):Int) from rfl,wD l l 0 (by simp) (by omega) (fun y hy=>by have:=mz (fun y=>Scan.tot y) hy;omega)]
 rfl
theorem wQ (l:List Scan):∀(v:Int),0≤v→v<4294967296→(∀y∈l,Scan.wd y)→e8 G.real TE.real l v=if v-(bL (fun y=>Scan.tot y) l:Nat)<0 then .ret (-1) else .out (v-(bL (fun y=>Scan.tot y) l:Nat)):=by
 induction l with
 |nil=>
  intro v h0 h1 hw
  have hT:bL (fun y=>Scan.tot y) ([]:List Scan)=0:=rfl
  rw[e8,if_neg (by omega),hT];simp
 |cons z l ih=>
  intro v h0 h1 hw
  rw[e8]
  rw[DE z v h0 h1 (hw z (by simp))]
  have hT:bL (fun y=>Scan.tot y) (z::l)=Scan.tot z+bL (fun y=>Scan.tot y) l:=by simp[bL]
  simp only[aA,bv,ao]
  by_cases h:bA v (Scan.tot z)<0
  ·have:=oR h
   rw[if_pos h,if_pos (by omega)]
  ·have:=a9 h
   rw[if_neg h,ih _ (by omega) (by omega) (fun y hy=>hw y (by simp[hy])),this.1,hT]
   have e:v-(Scan.tot z:Nat)-(bL (fun y=>Scan.tot y) l:Nat)=v-((Scan.tot z+bL (fun y=>Scan.tot y) l:Nat):Int):=by omega
   rw[e]
theorem eS (l:List Scan) (v:Int) (h0:0≤v) (h1:v<4294967296) (hw:l.length≤9223372036854775807∧∀y∈l,Scan.wd y):c7 G.real TE.real l v=bA v (l.length+bL (fun y=>Scan.tot y) l):=by
 unfold c7
 have hw1:=hw.1
 simp only[rG,kN,bv]
 rw[w64 (by omega) (by omega)]
 simp only[ao,aA]
 unfold bA
 by_cases h:v-l.length<0
 ·rw[if_pos h,if_pos (by omega)]
 ·rw[if_neg h,wQ l _ (by omega) (by omega) hw.2]
  have e:v-(l.length:Int)-(bL (fun y=>Scan.tot y) l:Nat)=v-((l.length+bL (fun y=>Scan.tot y) l:Nat):Int):=by omega
  rw[e]
  split<;>rfl
theorem tH (a:List ByteArray) (l:List ByteArray):∀(k:Nat),a.drop k=l→a.length<4611686018427387904→dK G.real TE.real a l k=some (.out ()):=by
 induction l with
 |nil=>intro k h hb;rw[dK]
 |cons z l ih=>
  intro k h hb
  have hk:k<a.length:=by
   have:=congrArg List.length h
   simp at this;omega
  have hz:a[k]?=some z:=by
   have:=congrArg (fun l=>l[0]?) h
   simpa using this
  rw[dK]
  simp only[aZ,Int.toNat_natCast,bm]
  rw[az hz]
  simp only[co,qR,beq_self_eq_true,decide_true,ba]
  rw[w64 (by omega) (by omega),show(k:Int)+1=((k+1:Nat):Int) by omega]
  exact ih (k+1) (by rw[←List.drop_drop,h];rfl) hb
theorem sn (l:List ByteArray) (h:l.length+bL (fun y=>y.size) l≤1048576):fP G.real TE.real l l=some true:=by
 unfold fP
 simp only[co,decide_true,ba]
 rw[show(0:Int)=((0:Nat):Int) from rfl,tH l l 0 (by simp) (by omega)]
 rfl
theorem wx (a:List Trip) (l:List Trip):∀(k:Nat),a.drop k=l→a.length<4611686018427387904→e9 G.real TE.real a l k=some (.out ()):=by
 induction l with
 |nil=>intro k h hb;rw[e9]
 |cons z l ih=>
  intro k h hb
  have hk:k<a.length:=by
   have:=congrArg List.length h
   simp at this;omega
  have hz:a[k]?=some z:=by
   have:=congrArg (fun l=>l[0]?) h
   simpa using this
  rw[e9]
  simp only[aZ,Int.toNat_natCast,bm]
  rw[az hz]
  simp only[yj,ag,aA,ba]
  rw[w64 (by omega) (by omega),show(k:Int)+1=((k+1:Nat):Int) by omega]
  exact ih (k+1) (by rw[←List.drop_drop,h];rfl) hb
theorem BG (l:List Trip) (h:l.length≤1048576):mS G.real TE.real l l=some true:=by
 unfold mS
 simp only[co,decide_true,ba]
 rw[show(0:Int)=((0:Nat):Int) from rfl,wx l l 0 (by simp) (by omega)]
 rfl
theorem As (x:Belief) (h:Belief.tot x≤1048576):iN G.real TE.real x x=some true:=by
 unfold Belief.tot at h
 simp[iN,sn x.Places (by omega),BG x.Rides (by omega)]
end Go.Vs
