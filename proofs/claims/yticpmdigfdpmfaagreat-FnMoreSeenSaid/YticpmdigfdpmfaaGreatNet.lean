/- Part of the proofs of this seat's laws: Net. No condition. -/
import Derived.Test.YticpmdigfdpmfaaGreatHa
import Derived.Test.YticpmdigfdpmfaaGreatLac
import Derived.Test.YticpmdigfdpmfaaGreatLaa
import Derived.Test.YticpmdigfdpmfaaGreatLab
set_option linter.unusedVariables false
set_option linter.unusedSimpArgs false
set_option linter.unusedSectionVars false
namespace Go.Vs
open Go.IntWalk
theorem lh (a b c:Int):dL G.real TE.real a b c=decide (b≤a∧a≤c):=by
 unfold dL
 simp only[jI,ea]
 by_cases h1:b≤a
 ·by_cases h2:a≤c
  ·simp[h1,h2]
  ·simp[h1,h2]
 ·simp[h1]
theorem rf (a b c:Int):gC G.real TE.real a b c=decide (b≤a∧a≤c):=by
 unfold gC
 simp only[jI,ea]
 by_cases h1:b≤a
 ·by_cases h2:a≤c
  ·simp[h1,h2]
  ·simp[h1,h2]
 ·simp[h1]
theorem B6 (a:ByteArray) (k:Int):0≤G.real.byte a k∧G.real.byte a k≤255:=by
 have e:G.real.byte a k=((a.data.getD k.toNat 0).toNat:Int):=rfl
 have:=(a.data.getD k.toNat 0).toNat_lt
 rw[e]
 omega
def okB (a:ByteArray):Nat→Nat→Bool
 |0,_=>true
 |n+1,k=>decide (65≤G.real.byte a (k:Int)∧G.real.byte a (k:Int)≤90)&&okB a n (k+1)
theorem sL (a:ByteArray) (ha:a.size≤1048576):∀(n k:Nat),k+n=a.size→dq G.real TE.real a n (k:Int)=if okB a n k=true then .out () else .ret false
 |0,k,_=>by rw[dq];rfl
 |n+1,k,h=>by
  rw[dq,okB]
  simp only[ea,bx,am]
  rw[w64 (by omega) (by omega),show(k:Int)+1=((k+1:Nat):Int) from by omega,sL a ha n (k+1) (by omega)]
  by_cases h1:G.real.byte a (k:Int)<65
  ·rw[if_pos h1,if_neg]
   simp only[Bool.and_eq_true,decide_eq_true_eq];omega
  ·rw[if_neg h1]
   by_cases h2:90<G.real.byte a (k:Int)
   ·rw[if_pos h2,if_neg]
    simp only[Bool.and_eq_true,decide_eq_true_eq];omega
   ·rw[if_neg h2]
    have:decide (65≤G.real.byte a (k:Int)∧G.real.byte a (k:Int)≤90)=true:=by simp only[decide_eq_true_eq];omega
    rw[this,Bool.true_and]
theorem sw (a:ByteArray) (ha:a.size≤1048576):∀(n k:Nat),k+n≤a.size→di G.real TE.real a n (k:Int)=some (if okB a n k=true then .out () else .ret false)
 |0,k,_=>by rw[di];rfl
 |n+1,k,h=>by
  have hb:=B6 a (k:Int)
  rw[di,okB]
  simp only[bx,aU]
  rw[ah (by omega),w64 (n:=G.real.byte a (k:Int)) (by omega) (by omega),rf,am,w64 (by omega) (by omega),show(k:Int)+1=((k+1:Nat):Int) from by omega,sw a ha n (k+1) (by omega)]
  by_cases h1:65≤G.real.byte a (k:Int)∧G.real.byte a (k:Int)≤90
  ·rw[if_pos h1]
   simp[h1]
  ·rw[if_neg h1]
   simp only[h1,decide_false,Bool.false_and,Bool.false_eq_true,if_false]
theorem uT (a:ByteArray) (ha:a.size≤1048576):∃r,ir G.real TE.real a=some r∧ip G.real TE.real a=some r∧(r=true→a.size=3):=by
 have cn:∀n:Nat,aA 0 (n:Int)=n:=fun n=>by unfold aA;omega
 unfold ir ip
 simp only[eB,Fr,aU,dM,am]
 rw[ah (by omega),cn,show(0:Int)=((0:Nat):Int) from rfl,sL a ha a.size 0 (by omega)]
 have e3:(3:Int)=((3:Nat):Int):=rfl
 by_cases h3:a.size=3
 ·have s3:=sw a ha 3 0 (by omega)
  cases hok:okB a a.size 0 with
  |true=>
   rw[h3] at hok
   rw[if_pos (c:=(true=true)) rfl,if_pos (c:=((a.size:Int)=3)) (by omega),e3,show aA ((0:Nat):Int) ((3:Nat):Int)=3 from rfl,s3,af,hok]
   exact⟨true,by simp[h3],rfl,fun _=>h3⟩
  |false=>
   rw[h3] at hok
   rw[if_neg (c:=(false=true)) (by simp),if_pos (c:=((a.size:Int)=3)) (by omega),e3,show aA ((0:Nat):Int) ((3:Nat):Int)=3 from rfl,s3,af,hok]
   exact⟨false,rfl,rfl,fun h=>by cases h⟩
 ·rw[if_neg (c:=((a.size:Int)=3)) (by omega)]
  refine⟨false,?_,rfl,fun h=>by cases h⟩
  split
  ·rw[tZ];congr 1;simp only[decide_eq_false_iff_not];omega
  ·rfl
structure LegOk (l:Leg):Prop where
 start:0≤l.Start∧l.Start≤1439
 takes:1≤l.Takes∧l.Takes≤4320
 days:1≤l.Days∧l.Days≤127
 room:0≤l.Room∧l.Room≤1000000
 from3:l.From.size=3
 to3:l.To.size=3
 ne:l.From≠l.To
theorem EF (l:Leg) (hl:l.tot≤1048576):∃r,nQ G.real TE.real l=some r∧nk G.real TE.real l=some r∧(r=true→LegOk l):=by
 unfold Leg.tot at hl
 obtain⟨r1,a1,a2,a3⟩:=uT l.From (by omega)
 obtain⟨r2,b1,b2,b3⟩:=uT l.To (by omega)
 unfold nQ nk
 rw[a1,a2,b1,b2]
 simp only[af,aU,lh,rf,am,fT]
 cases r1 with
 |false=>exact⟨false,rfl,rfl,fun h=>by cases h⟩
 |true=>
  cases r2 with
  |false=>exact⟨false,rfl,rfl,fun h=>by cases h⟩
  |true=>
   rw[c7,c7]
   by_cases c0:l.From=l.To
   ·rw[if_pos c0];exact⟨false,rfl,rfl,fun h=>by cases h⟩
   ·rw[if_neg c0]
    by_cases d1:0≤l.Start∧l.Start≤1439
    ·rw[if_pos d1]
     by_cases d2:1≤l.Takes∧l.Takes≤4320
     ·rw[if_pos d2]
      by_cases d3:1≤l.Days∧l.Days≤127
      ·rw[if_pos d3];exact⟨_,rfl,rfl,fun h=>⟨d1,d2,d3,by simpa using h,a3 rfl,b3 rfl,c0⟩⟩
      ·rw[if_neg d3];exact⟨false,rfl,rfl,fun h=>by cases h⟩
     ·rw[if_neg d2];exact⟨false,rfl,rfl,fun h=>by cases h⟩
    ·rw[if_neg d1];exact⟨false,rfl,rfl,fun h=>by cases h⟩
theorem Db:∀(l:List Leg),(∀x∈l,Leg.tot x≤1048576)→∃o,co G.real TE.real l=some o∧cj G.real TE.real l=some o∧(o=.ret false∨(o=.out ()∧∀x∈l,LegOk x))
 |[],_=>by rw[co,cj];exact⟨_,rfl,rfl,Or.inr ⟨rfl,by simp⟩⟩
 |z::l,h=>by
  obtain⟨r,a1,a2,a3⟩:=EF z (h z (by simp))
  obtain⟨o,b1,b2,b3⟩:=Db l fun x hx=>h x (by simp[hx])
  rw[co,cj,a1,a2,af,af]
  cases r with
  |true=>
   rw[c7,c7,b1,b2]
   refine⟨o,rfl,rfl,?_⟩
   rcases b3 with b3|⟨b3,b4⟩
   ·exact Or.inl b3
   ·refine Or.inr ⟨b3,fun x hx=>?_⟩
    rcases List.mem_cons.1 hx with rfl|hx
    ·exact a3 rfl
    ·exact b4 x hx
  |false=>exact⟨_,rfl,rfl,Or.inl rfl⟩
theorem Cj (n:Network) (hn:n.Off.length≤1048576):∀(l:List Int) (k:Nat),n.Off.drop k=l→∃o,bR G.real TE.real n l (k:Int)=some o∧bK G.real TE.real n l (k:Int)=some o∧(o=.ret false∨o=.out ())
 |[],k,_=>by rw[bR,bK];exact⟨_,rfl,rfl,Or.inr rfl⟩
 |z::l,k,h=>by
  have hk:k<n.Off.length:=by
   have:=congrArg List.length h
   simp at this;omega
  have ht:n.Off.drop (k+1)=l:=by
   have:=congrArg List.tail h
   simpa using this
  obtain⟨o,b1,b2,b3⟩:=Cj n hn l (k+1) ht
  rw[bR,bK]
  simp only[aU,lh,rf,am,ea,kQ,bx,jI,bE]
  rw[w64 (n:=(k:Int)+1) (by omega) (by omega),show(k:Int)+1=((k+1:Nat):Int) from by omega,b1,b2]
  by_cases c1:0≤z∧z≤60
  ·rw[if_pos c1]
   by_cases c2:(0:Int)<k
   ·rw[if_pos c2,w64 (n:=(k:Int)-1) (by omega) (by omega),ah (by omega),show((k:Int)-1).toNat=k-1 from by omega,ar (List.getElem?_eq_getElem (show k-1<n.Off.length by omega))]
    split
    ·exact⟨_,rfl,rfl,Or.inl rfl⟩
    ·exact⟨o,rfl,rfl,b3⟩
   ·rw[if_neg c2];exact⟨o,rfl,rfl,b3⟩
  ·rw[if_neg c1];exact⟨_,rfl,rfl,Or.inl rfl⟩
structure NetOk (n:Network):Prop where
 len:n.Legs.length≤20
 legs:∀x∈n.Legs,LegOk x
 change:0≤n.Change∧n.Change≤240
theorem xq (n:Network) (h:n.tot≤1048576):∃r,cN G.real TE.real n=some r∧dQ G.real TE.real n=some r∧(r=true→NetOk n):=by
 have h2:=h
 unfold Network.tot at h2
 obtain⟨o,a1,a2,a3⟩:=Db n.Legs fun x hx=>by have h3:Leg.tot x≤rZ (fun y=>Leg.tot y) n.Legs:=Cx (fun y=>Leg.tot y) hx;omega
 obtain⟨p,b1,b2,b3⟩:=Cj n (by omega) n.Off 0 rfl
 unfold cN dQ
 rw[show(0:Int)=((0:Nat):Int) from rfl,a1,a2,b1,b2]
 simp only[af,aU,lh,rf,jI,am,rK,Ba]
 rcases a3 with rfl|⟨rfl,a4⟩
 ·exact⟨false,rfl,rfl,fun h=>by cases h⟩
 ·rcases b3 with rfl|rfl
  ·exact⟨false,rfl,rfl,fun h=>by cases h⟩
  ·simp only[tZ]
   by_cases c1:(n.Legs.length:Int)≤20
   ·rw[if_pos c1]
    split
    ·exact⟨_,rfl,rfl,fun h=>⟨by omega,a4,by simpa using h⟩⟩
    ·exact⟨false,rfl,rfl,fun h=>by cases h⟩
   ·rw[if_neg c1];exact⟨false,rfl,rfl,fun h=>by cases h⟩
def netB (n:Network):Bool:=(dQ G.real TE.real n).getD false
theorem su {n:Network} (h:n.tot≤1048576):cN G.real TE.real n=some (netB n):=by
 obtain⟨r,a1,a2,_⟩:=xq n h
 rw[a1];unfold netB;rw[a2];rfl
theorem C8 {n:Network} (h:n.tot≤1048576):dQ G.real TE.real n=some (netB n):=by
 obtain⟨r,a1,a2,_⟩:=xq n h
 unfold netB;rw[a2];rfl
theorem iE {n:Network} (h:n.tot≤1048576) (hb:netB n=true):NetOk n:=by
 obtain⟨r,a1,a2,a3⟩:=xq n h
 refine a3 ?_
 unfold netB at hb;rw[a2] at hb;exact hb
def lgOf (n:Network) (l:Int):Leg:=n.Legs.getD l.toNat ⟨.empty,.empty,0,0,0,0⟩
theorem cU {n:Network} {l:Int} (h0:0≤l) (h1:l<n.Legs.length):n.Legs[l.toNat]?=some (lgOf n l):=by
 unfold lgOf
 rw[List.getD_eq_getElem?_getD,List.getElem?_eq_getElem (by omega)]
 rfl
theorem jT {n:Network} {l:Int} (h0:0≤l) (h1:l<n.Legs.length):lgOf n l∈n.Legs:=List.mem_of_getElem? (cU h0 h1)
end Go.Vs
namespace Go.Vs
open Go.IntWalk
theorem HG (a:Int):G.real.band .i64 a 1=0∨G.real.band .i64 a 1=1:=by
 have h:(BitVec.ofInt 64 a&&& BitVec.ofInt 64 1).toNat≤1:=by
  rw[BitVec.toNat_and]
  exact Nat.le_trans Nat.and_le_right (by decide)
 have e:G.real.band .i64 a 1=(((BitVec.ofInt 64 a&&& BitVec.ofInt 64 1).toNat:Nat):Int):=w64 (n:=(((BitVec.ofInt 64 a&&& BitVec.ofInt 64 1).toNat:Nat):Int)) (by omega) (by omega)
 rw[e]
 omega
theorem DG (a:Int) (l:List Int):fF G.real TE.real a l=if a∈l then .ret false else .out ():=by
 induction l with
 |nil=>rw[fF];simp
 |cons z l ih=>
  rw[fF,ih]
  simp only[dM,am]
  by_cases h:z=a
  ·rw[if_pos h,if_pos (by simp[h])]
  ·rw[if_neg h]
   by_cases h2:a∈l
   ·rw[if_pos h2,if_pos (by simp[h2])]
   ·rw[if_neg h2,if_neg (by simp[h2];exact fun e=>h e.symm)]
theorem Fu (a:Int) (l:List Int):eG G.real TE.real a l=if a∈l then .ret true else .out ():=by
 induction l with
 |nil=>rw[eG];simp
 |cons z l ih=>
  rw[eG,ih]
  simp only[dM,am]
  by_cases h:z=a
  ·rw[if_pos h,if_pos (by simp[h])]
  ·rw[if_neg h]
   by_cases h2:a∈l
   ·rw[if_pos h2,if_pos (by simp[h2])]
   ·rw[if_neg h2,if_neg (by simp[h2];exact fun e=>h e.symm)]
theorem uE (n:Network) (h:n.Legs.length≤1048576) (a b:Int):∃r,jW G.real TE.real n a b=some r∧g9 G.real TE.real n a b=some r∧(r=true→0≤a∧a<n.Legs.length∧0≤b∧b≤60):=by
 unfold jW g9 pJ
 simp only[aU,ea,jI,kQ,rK,lh,rf,am,DG,Fu,bE,dM,vJ]
 rw[w64 (n:=(n.Legs.length:Int)-1) (by omega) (by omega)]
 by_cases c1:a<0
 ·rw[if_pos c1,if_neg (by omega)];exact⟨false,rfl,rfl,fun h=>by cases h⟩
 ·rw[if_neg c1]
  by_cases c2:(n.Legs.length:Int)≤a
  ·rw[if_pos c2,if_neg (by omega)];exact⟨false,rfl,rfl,fun h=>by cases h⟩
  ·rw[if_neg c2,if_pos (c:=0≤a∧a≤(n.Legs.length:Int)-1) (by omega)]
   by_cases c3:0≤b∧b≤60
   ·have hx:n.Legs[a.toNat]?=some n.Legs[a.toNat]:=List.getElem?_eq_getElem (by omega)
    have hr:0≤b.tmod 7:=Int.tmod_nonneg _ c3.1
    rw[if_pos c3,if_pos c3,ah (by omega),ah (by omega),ar hx,ar hx,ah hr,ah hr]
    rcases HG (G.real.shr .i64 n.Legs[a.toNat].Days (b.tmod 7)) with e|e
    ·rw[e,if_pos rfl,if_neg (by decide)];exact⟨false,rfl,rfl,fun h=>by cases h⟩
    ·rw[e,if_neg (by decide),if_pos rfl]
     by_cases c4:b∈n.Off
     ·rw[if_pos c4,if_pos c4];exact⟨false,rfl,rfl,fun h=>by cases h⟩
     ·rw[if_neg c4,if_neg c4];exact⟨true,rfl,rfl,fun _=>by omega⟩
   ·rw[if_neg c3,if_neg c3];exact⟨false,rfl,rfl,fun h=>by cases h⟩
def runsB (n:Network) (a b:Int):Bool:=(g9 G.real TE.real n a b).getD false
theorem xJ {n:Network} (h:n.Legs.length≤1048576) (a b:Int):jW G.real TE.real n a b=some (runsB n a b):=by
 obtain⟨r,a1,a2,_⟩:=uE n h a b
 rw[a1];unfold runsB;rw[a2];rfl
theorem Cf {n:Network} (h:n.Legs.length≤1048576) (a b:Int):g9 G.real TE.real n a b=some (runsB n a b):=by
 obtain⟨r,a1,a2,_⟩:=uE n h a b
 unfold runsB;rw[a2];rfl
theorem cY {n:Network} (h:n.Legs.length≤1048576) {a b:Int} (hb:runsB n a b=true):0≤a∧a<n.Legs.length∧0≤b∧b≤60:=by
 obtain⟨r,a1,a2,a3⟩:=uE n h a b
 refine a3 ?_
 unfold runsB at hb;rw[a2] at hb;exact hb
theorem eX {n:Network} (h:n.tot≤1048576):n.Legs.length≤1048576:=by unfold Network.tot at h;omega
def dR (n:Network) (q:Trip):Bool:=netB n&&runsB n q.Leg q.Day
theorem Fk {n:Network} (h:n.tot≤1048576) (q:Trip):iG G.real TE.real n q=some (dR n q):=by
 unfold iG mN dR
 rw[su h,xJ (eX h)]
 cases netB n<;>rfl
theorem CB {n:Network} (h:n.tot≤1048576) (q:Trip):jG G.real TE.real n q=some (dR n q):=by
 unfold jG nj dR
 rw[C8 h,Cf (eX h)]
 cases netB n<;>rfl
def stN (n:Network) (l d:Int):Int:=d*1440+(lgOf n l).Start
def enN (n:Network) (l d:Int):Int:=stN n l d+(lgOf n l).Takes
theorem jg {n:Network} (hn:NetOk n) {l d:Int} (h0:0≤l) (h1:l<n.Legs.length) (h2:0≤d) (h3:d≤60):d*1440≤stN n l d∧stN n l d≤87839∧stN n l d<enN n l d∧enN n l d≤92159:=by
 have:=hn.legs _ (jT h0 h1)
 have h4:=this.start
 have h5:=this.takes
 unfold enN stN
 omega
theorem iS {n:Network} (hn:NetOk n) {l d:Int} (h0:0≤l) (h1:l<n.Legs.length) (h2:0≤d) (h3:d≤60):ci G.real TE.real n ⟨l,d⟩=some (stN n l d):=by
 have hr:=jg hn h0 h1 h2 h3
 unfold ci
 simp only[bE,bx,lO]
 rw[ah h0,ar (cU h0 h1),w64 (n:=d*1440) (by omega) (by omega),w64 (by unfold stN at hr;omega) (by unfold stN at hr;omega)]
 rfl
theorem mY {n:Network} (hn:NetOk n) {l d:Int} (h0:0≤l) (h1:l<n.Legs.length) (h2:0≤d) (h3:d≤60):dY G.real TE.real n ⟨l,d⟩=some (stN n l d):=by
 have hr:=jg hn h0 h1 h2 h3
 unfold dY
 simp only[bE,bx,lO]
 rw[ah h0,ar (cU h0 h1),w64 (n:=d*1440) (by omega) (by omega),w64 (by unfold stN at hr;omega) (by unfold stN at hr;omega)]
 rfl
theorem qp {n:Network} (hn:NetOk n) {l d:Int} (h0:0≤l) (h1:l<n.Legs.length) (h2:0≤d) (h3:d≤60):eu G.real TE.real n ⟨l,d⟩=some (enN n l d):=by
 have hr:=jg hn h0 h1 h2 h3
 unfold eu
 rw[iS hn h0 h1 h2 h3,af]
 simp only[bE,bx]
 rw[ah h0,ar (cU h0 h1),w64 (by unfold enN at hr;omega) (by unfold enN at hr;omega)]
 rfl
theorem BQ {n:Network} (hn:NetOk n) {l d:Int} (h0:0≤l) (h1:l<n.Legs.length) (h2:0≤d) (h3:d≤60):gU G.real TE.real n ⟨l,d⟩=some (enN n l d):=by
 have hr:=jg hn h0 h1 h2 h3
 unfold gU
 rw[mY hn h0 h1 h2 h3,af]
 simp only[bE,bx]
 rw[ah h0,ar (cU h0 h1),w64 (by unfold enN at hr;omega) (by unfold enN at hr;omega)]
 rfl
end Go.Vs
namespace Go.Vs
open Go.IntWalk
theorem vw (w:List ByteArray) (x:ByteArray):G.real.hasS w x=true↔x∈w:=by
 have e:G.real.hasS w x=hasL w x:=rfl
 rw[e]
 unfold hasL
 simp
theorem BB (w:List ByteArray) (x z:ByteArray):z∈G.real.putS w x↔z∈w∨z=x:=by
 have ep:G.real.putS w x=putL w x:=rfl
 rw[ep]
 unfold putL
 split
 ·rename_i h
  exact⟨.inl,fun hh=>hh.elim id (fun e=>e▸h)⟩
 ·simp
theorem xu (a b:ByteArray):∀(n k:Nat) (w3 w4:List ByteArray),k+n=2→w4.length+n≤5000000→(∀p,p∈w3↔p∈w4)→w4.Nodup→
 ∃u3 u4,ca G.real TE.real [a,b] n (k:Int) w3 w4=some (u3,u4)∧(∀p,p∈u3↔p∈u4)∧u4.Nodup∧u4.length≤w4.length+n∧∀p,p∈u4↔p∈w4∨p∈[a,b].drop k
 |0,k,w3,w4,hk,_,h,hn=>by
  rw[ca]
  exact⟨w3,w4,rfl,h,hn,by omega,fun p=>by rw[List.drop_of_length_le (by simp;omega)];simp⟩
 |n+1,k,w3,w4,hk,hl,h,hn=>by
  have hkl:k<[a,b].length:=by simp;omega
  have hx:[a,b][k]?=some ([a,b][k]'hkl):=List.getElem?_eq_getElem hkl
  have hd:=List.drop_eq_getElem_cons hkl
  generalize [a,b][k]'hkl=x at hx hd
  rw[ca]
  simp only[bE,Int.toNat_natCast,aU,bx]
  rw[ar hx,w64 (by omega) (by omega),show(k:Int)+1=((k+1:Nat):Int) from by omega]
  cases hb:G.real.hasS w3 x with
  |true=>
   have hm:=(vw _ _).1 hb
   rw[c7]
   obtain⟨u3,u4,e1,e2,e5,e3,e4⟩:=xu a b n (k+1) w3 w4 (by omega) (by omega) h hn
   refine⟨u3,u4,e1,e2,e5,by omega,fun p=>?_⟩
   rw[e4,hd]
   simp only[List.mem_cons]
   constructor
   ·rintro(q|q)
    ·exact .inl q
    ·exact .inr (.inr q)
   ·rintro(q|rfl|q)
    ·exact .inl q
    ·exact .inl ((h _).1 hm)
    ·exact .inr q
  |false=>
   have hm:x∉w3:=fun hh=>by rw[(vw _ _).2 hh] at hb;cases hb
   rw[lJ,ah (by simp only[List.length_cons,List.length_nil];omega)]
   obtain⟨u3,u4,e1,e2,e5,e3,e4⟩:=xu a b n (k+1) (G.real.putS w3 x) (w4++[x]) (by omega) (by simp;omega) (fun p=>by
    rw[BB];simp[h p]) (by
    rw[List.nodup_append]
    refine⟨hn,by simp,fun y hy z hz=>?_⟩
    simp only[List.mem_singleton] at hz
    subst hz
    intro e;subst e
    exact hm ((h _).2 hy))
   refine⟨u3,u4,e1,e2,e5,by simp at e3;omega,fun p=>?_⟩
   rw[e4,hd]
   simp only[List.mem_append,List.mem_cons,List.not_mem_nil,or_false]
   constructor
   ·rintro((q|q)|q)
    ·exact .inl q
    ·exact .inr (.inl q)
    ·exact .inr (.inr q)
   ·rintro(q|q|q)
    ·exact .inl (.inl q)
    ·exact .inl (.inr q)
    ·exact .inr q
def qB (l:List Leg):List ByteArray:=l.flatMap fun x=>[x.From,x.To]
theorem si (l:List Leg) (p:ByteArray):p∈qB l↔∃x∈l,p=x.From∨p=x.To:=by
 unfold qB
 simp[List.mem_flatMap]
theorem BI:∀(l:List Leg) (w1 w2:List ByteArray),w2.length+2*l.length≤4194304→(∀p,p∈w1↔p∈w2)→w2.Nodup→
 ∃u,cL G.real TE.real l w1 w2=some u∧u.Nodup∧u.length≤w2.length+2*l.length∧∀p,p∈u↔p∈w2∨p∈qB l
 |[],w1,w2,_,_,hn=>by rw[cL];exact⟨w2,rfl,hn,by simp,by simp[qB]⟩
 |z::l,w1,w2,hl,h,hn=>by
  simp only[List.length_cons] at hl
  obtain⟨u3,u4,e1,e2,e5,e3,e4⟩:=xu z.From z.To 2 0 w1 w2 rfl (by omega) h hn
  obtain⟨u,f1,f4,f2,f3⟩:=BI l u3 u4 (by omega) e2 e5
  rw[cL]
  simp only[eB,gN,List.length_cons,List.length_nil,lP]
  rw[ah (by omega),show aA 0 (((0+1+1:Nat)):Int)=2 from rfl,show(0:Int)=((0:Nat):Int) from rfl,e1,af]
  refine⟨u,f1,f4,by omega,fun p=>?_⟩
  rw[f3,e4]
  simp only[qB,List.flatMap_cons,List.mem_append,List.drop_zero,List.mem_cons,List.not_mem_nil,or_false,or_assoc]
def plc (n:Network):List ByteArray:=xd (qB n.Legs)
theorem wm {n:Network} (h:n.Legs.length≤1048576):dA G.real TE.real n=some (plc n):=by
 obtain⟨u,e1,e4,e2,e3⟩:=BI n.Legs [] [] (by simp;omega) (by simp) (by simp)
 simp only[List.length_nil] at e2
 unfold dA
 rw[aU,e1,af]
 unfold iL
 rw[ah (by omega),af,ah (v7 u)]
 congr 1
 refine yW (pb e4) fun x=>?_
 rw[vS,e3]
 simp
def be (p:ByteArray):List ByteArray→Nat
 |[]=>0
 |x::l=>if bLt x p then be p l+1 else 0
theorem yo (p:ByteArray):∀l,be p l≤l.length
 |[]=>by simp[be]
 |x::l=>by
  have:=yo p l
  unfold be
  split<;>simp<;>omega
theorem sW (p:ByteArray):∀l:List ByteArray,∀z∈l.take (be p l),bLt z p
 |[],z,h=>by simp at h
 |x::l,z,h=>by
  unfold be at h
  split at h
  ·rename_i hx
   simp only[List.take_succ_cons,List.mem_cons] at h
   rcases h with rfl|h
   ·exact hx
   ·exact sW p l z h
  ·simp at h
theorem oG (p:ByteArray):∀{l:List ByteArray},l.Pairwise bLt→∀z∈l.drop (be p l),¬bLt z p
 |[],_,z,h=>by simp at h
 |x::l,hs,z,h=>by
  obtain⟨h1,h2⟩:=List.pairwise_cons.1 hs
  unfold be at h
  split at h
  ·exact oG p h2 z (by simpa using h)
  ·rename_i hx
   simp only[List.drop_zero,List.mem_cons] at h
   rcases h with rfl|h
   ·exact hx
   ·exact fun hz=>hx (sx (h1 _ h) hz)
def qD (l:List ByteArray) (p:ByteArray):List ByteArray:=if l[be p l]?=some p then l else l.take (be p l)++p::l.drop (be p l)
theorem Cg (l:List ByteArray) (p z:ByteArray):z∈qD l p↔z∈l∨z=p:=by
 unfold qD
 split
 ·rename_i h
  exact⟨.inl,fun hh=>hh.elim id (fun e=>e▸List.mem_of_getElem? h)⟩
 ·have hm:z∈l↔z∈l.take (be p l)∨z∈l.drop (be p l):=by rw[←List.mem_append,List.take_append_drop]
  rw[List.mem_append,List.mem_cons,hm]
  constructor
  ·rintro(h|h|h)
   ·exact .inl (.inl h)
   ·exact .inr h
   ·exact .inl (.inr h)
  ·rintro((h|h)|h)
   ·exact .inl h
   ·exact .inr (.inr h)
   ·exact .inr (.inl h)
theorem vI {l:List ByteArray} (p:ByteArray) (hs:l.Pairwise bLt):(qD l p).Pairwise bLt:=by
 unfold qD
 split
 ·exact hs
 ·rename_i hne
  have hap:l.Pairwise bLt:=hs
  rw[←List.take_append_drop (be p l) l,List.pairwise_append] at hap
  obtain⟨a1,a2,a3⟩:=hap
  have hd:∀z∈l.drop (be p l),bLt p z:=fun z hz=>by
   rcases yT p z with h|h|h
   ·exact h
   ·subst h
    exfalso
    cases hdr:l.drop (be p l) with
    |nil=>rw[hdr] at hz;simp at hz
    |cons y m=>
     have hy:l[be p l]?=some y:=by
      have:(l.drop (be p l))[0]?=some y:=by rw[hdr];rfl
      simpa using this
     rw[hdr] at hz
     rcases List.mem_cons.1 hz with e|hz
     ·subst e;exact hne hy
     ·rw[hdr,List.pairwise_cons] at a2
      exact oG p hs y (by rw[hdr];simp) (a2.1 _ hz)
   ·exact absurd h (oG p hs z hz)
  rw[List.pairwise_append]
  refine⟨a1,List.pairwise_cons.2 ⟨hd,a2⟩,fun x hx y hy=>?_⟩
  rcases List.mem_cons.1 hy with rfl|hy
  ·exact sW y l x hx
  ·exact a3 x hx y hy
theorem BT (l:List ByteArray) (p:ByteArray):(qD l p).length≤l.length+1:=by
 unfold qD
 split
 ·omega
 ·simp;omega
theorem BW (w:List ByteArray) (x:Leg) (hw:w.length≤4194304):∀(n k:Nat),k+n=w.length→bY G.real TE.real w x n (k:Int)=some ((k+be x.To (w.drop k):Nat):Int)
 |0,k,h=>by rw[bY,List.drop_of_length_le (by omega)];rfl
 |n+1,k,h=>by
  have hk:k<w.length:=by omega
  rw[bY]
  simp only[bE,Int.toNat_natCast,bx,El,am]
  rw[ar (List.getElem?_eq_getElem hk),w64 (by omega) (by omega),show(k:Int)+1=((k+1:Nat):Int) from by omega,BW w x hw n (k+1) (by omega),List.drop_eq_getElem_cons hk,be]
  split
  ·congr 2;omega
  ·rfl
theorem Bc (w:List ByteArray) (x:Leg) (hw:w.length≤4194304):∀(n k:Nat),k+n=w.length→cd G.real TE.real w x n (k:Int)=some ((k+be x.From (w.drop k):Nat):Int)
 |0,k,h=>by rw[cd,List.drop_of_length_le (by omega)];rfl
 |n+1,k,h=>by
  have hk:k<w.length:=by omega
  rw[cd]
  simp only[bE,Int.toNat_natCast,bx,El,am]
  rw[ar (List.getElem?_eq_getElem hk),w64 (by omega) (by omega),show(k:Int)+1=((k+1:Nat):Int) from by omega,Bc w x hw n (k+1) (by omega),List.drop_eq_getElem_cons hk,be]
  split
  ·congr 2;omega
  ·rfl
theorem yO {γ:Type} {w:List ByteArray} {p:ByteArray} (hw:w.length≤4194304) {k:List ByteArray→Option γ} {k2:Option γ} (h2:w[be p w]?=some p→k2=k w):
 (br (decide (((be p w:Nat):Int)=(w.length:Int)))
  (gd ((0:Int)≤0∧0≤((be p w:Nat):Int)∧((be p w:Nat):Int)≤((w.length:Nat):Int))<|
   gd (Int.toNat 0+(Int.toNat ((be p w:Nat):Int)-Int.toNat 0)≤w.length)<|
   gd ((([]:List ByteArray).length+(List.take (Int.toNat ((be p w:Nat):Int)-Int.toNat 0) (List.drop (Int.toNat 0) w)).length)*16≤70368744177664)<|
   gd ((([]++(List.take (Int.toNat ((be p w:Nat):Int)-Int.toNat 0) (List.drop (Int.toNat 0) w))).length+[p].length)*16≤70368744177664)<|
   gd ((0:Int)≤((be p w:Nat):Int)∧((be p w:Nat):Int)≤(w.length:Int)∧(w.length:Int)≤((w.length:Nat):Int))<|
   gd (Int.toNat ((be p w:Nat):Int)+(Int.toNat (w.length:Int)-Int.toNat ((be p w:Nat):Int))≤w.length)<|
   gd ((([]++(List.take (Int.toNat ((be p w:Nat):Int)-Int.toNat 0) (List.drop (Int.toNat 0) w))++[p]).length+(List.take (Int.toNat (w.length:Int)-Int.toNat ((be p w:Nat):Int)) (List.drop (Int.toNat ((be p w:Nat):Int)) w)).length)*16≤70368744177664)<|
   k ([]++(List.take (Int.toNat ((be p w:Nat):Int)-Int.toNat 0) (List.drop (Int.toNat 0) w))++[p]++(List.take (Int.toNat (w.length:Int)-Int.toNat ((be p w:Nat):Int)) (List.drop (Int.toNat ((be p w:Nat):Int)) w))))
  (gd ((0:Int)≤((be p w:Nat):Int)∧((be p w:Nat):Int)<((w.length:Nat):Int))<|
   gt w (Int.toNat ((be p w:Nat):Int)) fun x3=>
   br (decide (x3=p)) k2
   (gd ((0:Int)≤0∧0≤((be p w:Nat):Int)∧((be p w:Nat):Int)≤((w.length:Nat):Int))<|
   gd (Int.toNat 0+(Int.toNat ((be p w:Nat):Int)-Int.toNat 0)≤w.length)<|
   gd ((([]:List ByteArray).length+(List.take (Int.toNat ((be p w:Nat):Int)-Int.toNat 0) (List.drop (Int.toNat 0) w)).length)*16≤70368744177664)<|
   gd ((([]++(List.take (Int.toNat ((be p w:Nat):Int)-Int.toNat 0) (List.drop (Int.toNat 0) w))).length+[p].length)*16≤70368744177664)<|
   gd ((0:Int)≤((be p w:Nat):Int)∧((be p w:Nat):Int)≤(w.length:Int)∧(w.length:Int)≤((w.length:Nat):Int))<|
   gd (Int.toNat ((be p w:Nat):Int)+(Int.toNat (w.length:Int)-Int.toNat ((be p w:Nat):Int))≤w.length)<|
   gd ((([]++(List.take (Int.toNat ((be p w:Nat):Int)-Int.toNat 0) (List.drop (Int.toNat 0) w))++[p]).length+(List.take (Int.toNat (w.length:Int)-Int.toNat ((be p w:Nat):Int)) (List.drop (Int.toNat ((be p w:Nat):Int)) w)).length)*16≤70368744177664)<|
   k ([]++(List.take (Int.toNat ((be p w:Nat):Int)-Int.toNat 0) (List.drop (Int.toNat 0) w))++[p]++(List.take (Int.toNat (w.length:Int)-Int.toNat ((be p w:Nat):Int)) (List.drop (Int.toNat ((be p w:Nat):Int)) w))))))=k (qD w p):=by
 have hle:=yo p w
 have hv:[]++(List.take (Int.toNat ((be p w:Nat):Int)-Int.toNat 0) (List.drop (Int.toNat 0) w))++[p]++(List.take (Int.toNat (w.length:Int)-Int.toNat ((be p w:Nat):Int)) (List.drop (Int.toNat ((be p w:Nat):Int)) w))=w.take (be p w)++p::w.drop (be p w):=by
  simp only[Int.toNat_natCast,Int.toNat_zero,Nat.sub_zero,List.drop_zero,List.nil_append]
  rw[List.take_of_length_le (l:=List.drop (be p w) w) (by simp)]
  simp
 have hlt:(List.take (be p w) w).length≤w.length:=by simp;omega
 by_cases hc:be p w=w.length
 ·rw[am,if_pos (by omega)]
  repeat rw[ah (by simp;omega)]
  rw[hv]
  unfold qD
  rw[if_neg]
  rw[List.getElem?_eq_none (by omega)]
  simp
 ·have hx:w[Int.toNat ((be p w:Nat):Int)]?=some (w[be p w]'(by omega)):=by
   rw[Int.toNat_natCast];exact List.getElem?_eq_getElem (by omega)
  rw[am,if_neg (by omega),ah (by omega),ar hx,am]
  by_cases he:w[be p w]'(by omega)=p
  ·have hp:w[be p w]?=some p:=by rw[List.getElem?_eq_getElem (by omega),he]
   rw[if_pos he,h2 hp]
   unfold qD
   rw[if_pos hp]
  ·rw[if_neg he]
   repeat rw[ah (by simp;omega)]
   rw[hv]
   unfold qD
   rw[if_neg]
   rw[List.getElem?_eq_getElem (by omega)]
   simpa using he
def rX (n:Network) (v:Nat):ByteArray:=if v%2=1 then(lgOf n ((v/2:Nat):Int)).To else(lgOf n ((v/2:Nat):Int)).From
theorem Cm (n:Network) (hn:n.Legs.length≤1048576):∀(m v:Nat) (w:List ByteArray),v+m=2*n.Legs.length→w.length≤v→w.Pairwise bLt→
 ∃u,aK G.real TE.real n m (v:Int) w=some u∧u.Pairwise bLt∧∀z,z∈u↔z∈w∨∃j,v≤j∧j<2*n.Legs.length∧z=rX n j
 |0,v,w,h,_,hs=>by
  rw[aK]
  refine⟨w,rfl,hs,fun z=>⟨.inl,?_⟩⟩
  rintro(h2|⟨j,h1,h2,_⟩)
  ·exact h2
  ·omega
 |m+1,v,w,h,hl,hs=>by
  have hq:Int.tdiv (v:Int) 2=((v/2:Nat):Int):=by rw[Int.tdiv_eq_ediv_of_nonneg (by omega)];omega
  have hr:Int.tmod (v:Int) 2=((v%2:Nat):Int):=by rw[Int.tmod_eq_emod_of_nonneg (by omega)];omega
  have hlt:v/2<n.Legs.length:=by omega
  have hg:n.Legs[v/2]?=some (lgOf n ((v/2:Nat):Int)):=by
   have:=cU (n:=n) (l:=((v/2:Nat):Int)) (by omega) (by omega)
   rwa [Int.toNat_natCast] at this
  obtain⟨u,e1,e2,e3⟩:=Cm n hn m (v+1) (qD w (rX n v)) (by omega) (by have:=BT w (rX n v);omega) (vI _ hs)
  refine⟨u,?_,e2,fun z=>?_⟩
  ·rw[←e1,aK]
   simp only[GG,vJ,bx,bE,eB,gN,dM,hq,hr,aU,fT,Fo,E6]
   rw[w64 (n:=((v/2:Nat):Int)) (by omega) (by omega),ah (by omega),Int.toNat_natCast (v/2),ar hg,w64 (n:=(v:Int)+1) (by omega) (by omega),show(v:Int)+1=((v+1:Nat):Int) from by omega]
   have cn:aA 0 (w.length:Int)=w.length:=by unfold aA;omega
   have z2:bY G.real TE.real w (lgOf n ((v/2:Nat):Int)) w.length 0=some ((be (lgOf n ((v/2:Nat):Int)).To w:Nat):Int):=by simpa using BW w (lgOf n ((v/2:Nat):Int)) (by omega) w.length 0 (by omega)
   have z3:cd G.real TE.real w (lgOf n ((v/2:Nat):Int)) w.length 0=some ((be (lgOf n ((v/2:Nat):Int)).From w:Nat):Int):=by simpa using Bc w (lgOf n ((v/2:Nat):Int)) (by omega) w.length 0 (by omega)
   rw[ah (c:=(0:Int)≤((v/2:Nat):Int)) (by omega),ah (by omega),cn,z2,z3,af,af]
   by_cases hv:v%2=1
   ·have hp:rX n v=(lgOf n ((v/2:Nat):Int)).To:=by unfold rX;rw[if_pos hv]
    rw[am,if_pos (by omega)]
    have:=yO (γ:=List ByteArray) (w:=w) (p:=(lgOf n ((v/2:Nat):Int)).To) (by omega) (k:=fun l=>aK G.real TE.real n m ((v+1:Nat):Int) l) (k2:=aK G.real TE.real n m ((v+1:Nat):Int) w) (fun _=>rfl)
    rw[hp]
    exact this
   ·have hp:rX n v=(lgOf n ((v/2:Nat):Int)).From:=by unfold rX;rw[if_neg hv]
    rw[am,if_neg (by omega)]
    have:=yO (γ:=List ByteArray) (w:=w) (p:=(lgOf n ((v/2:Nat):Int)).From) (by omega) (k:=fun l=>aK G.real TE.real n m ((v+1:Nat):Int) l) (k2:=aK G.real TE.real n m ((v+1:Nat):Int) w) (fun _=>rfl)
    rw[hp,ah (by omega)]
    exact this
  ·rw[e3,Cg]
   constructor
   ·rintro((h1|h1)|⟨j,h1,h2,h3⟩)
    ·exact .inl h1
    ·exact .inr ⟨v,by omega,by omega,h1⟩
    ·exact .inr ⟨j,by omega,h2,h3⟩
   ·rintro(h1|⟨j,h1,h2,h3⟩)
    ·exact .inl (.inl h1)
    ·by_cases hj:j=v
     ·subst hj;exact .inl (.inr h3)
     ·exact .inr ⟨j,by omega,h2,h3⟩
theorem vK {n:Network} (h:n.Legs.length≤1048576):eo G.real TE.real n=some (plc n):=by
 obtain⟨u,e1,e2,e3⟩:=Cm n h (2*n.Legs.length) 0 [] (by omega) (by simp) (by simp)
 unfold eo
 simp only[aU,lO,rK]
 have cn:aA 0 (2* (n.Legs.length:Int))=2*n.Legs.length:=by unfold aA;omega
 rw[w64 (by omega) (by omega),ah (by omega),cn,show(0:Int)=((0:Nat):Int) from rfl,e1,af]
 congr 1
 refine yW e2 fun z=>?_
 rw[e3,si]
 simp only[List.not_mem_nil,false_or]
 constructor
 ·rintro⟨j,_,h2,h3⟩
  have hm:lgOf n ((j/2:Nat):Int)∈n.Legs:=jT (by omega) (by omega)
  unfold rX at h3
  split at h3
  ·exact⟨_,hm,.inr h3⟩
  ·exact⟨_,hm,.inl h3⟩
 ·rintro⟨x,hx,hz⟩
  obtain⟨i,hi,rfl⟩:=List.getElem_of_mem hx
  have hlg:lgOf n ((i:Nat):Int)=n.Legs[i]:=by
   have:=cU (n:=n) (l:=((i:Nat):Int)) (by omega) (by omega)
   rw[Int.toNat_natCast,List.getElem?_eq_getElem hi] at this
   exact(Option.some.inj this).symm
  rcases hz with hz|hz
  ·refine⟨2*i,by omega,by omega,?_⟩
   unfold rX
   rw[if_neg (by omega),show 2*i/2=i by omega,hlg];exact hz
  ·refine⟨2*i+1,by omega,by omega,?_⟩
   unfold rX
   rw[if_pos (by omega),show(2*i+1)/2=i by omega,hlg];exact hz
theorem cw (n:Network) (z:ByteArray):z∈plc n↔∃x∈n.Legs,z=x.From∨z=x.To:=by unfold plc;rw[vv,si]
theorem cZ (n:Network):(plc n).length≤2*n.Legs.length:=by
 refine Nat.le_trans (Bm _) ?_
 unfold qB
 induction n.Legs with
 |nil=>simp
 |cons x l ih=>simp only[List.flatMap_cons,List.length_append,List.length_cons,List.length_nil];omega
theorem Cy (s:ByteArray):∀(l:List ByteArray) (v:Int),0≤v→v+l.length≤4194304→bP G.real TE.real s l v=if s∈l then .ret (v+ixN l s) else .out ()
 |[],v,_,_=>by rw[bP];simp
 |z::l,v,h0,h1=>by
  simp only[List.length_cons] at h1
  rw[bP]
  simp only[fT,bx,am]
  rw[w64 (by omega) (by omega),Cy s l (v+1) (by omega) (by omega)]
  by_cases h:z=s
  ·rw[if_pos h,if_pos (by simp[h])]
   unfold ixN
   rw[if_pos h];simp
  ·rw[if_neg h]
   by_cases hm:s∈l
   ·rw[if_pos hm,if_pos (by simp[hm])]
    congr 1
    conv=>rhs;unfold ixN
    rw[if_neg h];omega
   ·rw[if_neg hm,if_neg (by simp[hm];exact fun e=>h e.symm)]
theorem pi {l:List ByteArray} (h:l.length≤4194304) (s:ByteArray):cv G.real TE.real l s=ix l s:=by
 unfold cv
 rw[Cy s l 0 (by omega) (by omega),aU]
 unfold ix
 split<;>simp
theorem A0 (s:ByteArray):∀(l:List ByteArray) (v:Int),dn G.real TE.real s l v=bP G.real TE.real s l v
 |[],v=>by rw[dn,bP]
 |z::l,v=>by rw[dn,bP,A0 s l]
theorem tD {l:List ByteArray} (h:l.length≤4194304) (s:ByteArray):c9 G.real TE.real l s=ix l s:=by
 rw[←pi h s]
 unfold c9 cv
 rw[A0]
end Go.Vs
namespace Go.Vs
open Go.IntWalk
def fdD (p:Int→Bool):Nat→Int→Option Int
 |0,_=>none
 |n+1,v=>if p v=true then some v else fdD p n (v+1)
theorem qa {p:Int→Bool}:∀{n:Nat} {v d:Int},fdD p n v=some d→p d=true∧v≤d∧d<v+n
 |n+1,v,d,h=>by
  unfold fdD at h
  split at h
  ·rename_i hp;cases h;exact⟨hp,by omega,by omega⟩
  ·obtain⟨h1,h2,h3⟩:=qa h;exact⟨h1,by omega,by omega⟩
def tbO (l:Int):Option Int→Trip×Bool
 |some d=>(⟨l,d⟩,true)
 |none=>(⟨0,0⟩,false)
def dyO:Option Int→Int
 |some d=>d
 |none=> -1
def pN (n:Network) (l at_:Int) (d:Int):Bool:=runsB n l d&&decide (at_≤stN n l d)
theorem zb {n:Network} (hn:NetOk n) {l:Int} (at_:Int):∀(m:Nat) (v:Int),0≤v→v+m≤1000→eK G.real TE.real n l at_ m v=some (match fdD (pN n l at_) m v with|some d=>.ret (⟨l,d⟩,true)|none=>.out ())
 |0,v,_,_=>by rw[eK,fdD]
 |m+1,v,h0,h1=>by
  have hl:n.Legs.length≤1048576:=by have:=hn.len;omega
  rw[eK,fdD,xJ hl]
  simp only[af,bx,jI,am]
  rw[w64 (by omega) (by omega),zb hn at_ m (v+1) (by omega) (by omega)]
  unfold pN
  cases hr:runsB n l v with
  |false=>rfl
  |true=>
   obtain⟨r1,r2,r3,r4⟩:=cY hl hr
   rw[c7,iS hn r1 r2 r3 r4,af]
   by_cases hc:at_≤stN n l v
   ·rw[if_pos hc];simp[hc]
   ·rw[if_neg hc];simp[hc]
theorem E8 {n:Network} (hn:NetOk n) (l at_:Int):rI G.real TE.real n l at_=some (tbO l (fdD (pN n l at_) 61 0)):=by
 unfold rI
 rw[show df 0 60=61 from rfl,zb hn at_ 61 0 (by omega) (by omega),af]
 cases fdD (pN n l at_) 61 0<;>rfl
theorem xW {n:Network} (hn:NetOk n) {l:Int} (at_:Int):∀(m:Nat) (v:Int),0≤v→v+m≤1000→dt G.real TE.real n l at_ m v=some (match fdD (pN n l at_) m v with|some d=>.ret d|none=>.out ())
 |0,v,_,_=>by rw[dt,fdD]
 |m+1,v,h0,h1=>by
  have hl:n.Legs.length≤1048576:=by have:=hn.len;omega
  rw[dt,fdD,Cf hl]
  simp only[af,bx,jI,am]
  rw[w64 (by omega) (by omega),xW hn at_ m (v+1) (by omega) (by omega)]
  unfold pN
  cases hr:runsB n l v with
  |false=>rfl
  |true=>
   obtain⟨r1,r2,r3,r4⟩:=cY hl hr
   rw[c7,mY hn r1 r2 r3 r4,af]
   by_cases hc:at_≤stN n l v
   ·rw[if_pos hc];simp[hc]
   ·rw[if_neg hc];simp[hc]
theorem CA {n:Network} (hn:NetOk n) (l at_:Int):iv G.real TE.real n l at_=some (dyO (fdD (pN n l at_) 61 0)):=by
 unfold iv
 rw[show df 0 60=61 from rfl,xW hn at_ 61 0 (by omega) (by omega),af]
 cases fdD (pN n l at_) 61 0<;>rfl
structure Find (fd:Fd) (n:Network) (f:Int→Int→Option Int):Prop where
 call:∀l a,callFd G.real TE.real fd l a=some (tbO l (f l a))
 ok:∀{l a d},f l a=some d→runsB n l d=true∧a≤stN n l d
def fN (n:Network) (l a:Int):Option Int:=fdD (pN n l a) 61 0
theorem cT {n:Network} (hn:NetOk n):Find (.I_nextOf_1 n) n (fN n):=by
 refine⟨fun l a=>?_,fun{l a d} h=>?_⟩
 ·show I_nextOf_1 G.real TE.real l a n=_
  unfold I_nextOf_1
  rw[E8 hn,af]
  rfl
 ·obtain⟨h1,_,_⟩:=qa h
  unfold pN at h1
  simpa using h1
end Go.Vs
