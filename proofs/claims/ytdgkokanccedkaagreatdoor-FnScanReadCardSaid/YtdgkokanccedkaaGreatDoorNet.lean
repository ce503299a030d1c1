/- Part of the proofs of this seat's laws: Net. No condition. -/
import Derived.Test.YtdgkokanccedkaaGreatDoorHa
import Derived.Test.YtdgkokanccedkaaGreatDoorPla
import Derived.Test.YtdgkokanccedkaaGreatDoorLaa
import Derived.Test.YtdgkokanccedkaaGreatDoorLab
set_option linter.unusedVariables false
set_option linter.unusedSimpArgs false
set_option linter.unusedSectionVars false
namespace Go.Vs
open Go.IntWalk
theorem gW (a b c:Int):bX G.real TE.real a b c=decide (b≤a∧a≤c):=by
 unfold bX
 simp only[qT,eK]
 by_cases h1:b≤a
 ·by_cases h2:a≤c
  ·simp[h1,h2]
  ·simp[h1,h2]
 ·simp[h1]
theorem hO (a b c:Int):dc G.real TE.real a b c=decide (b≤a∧a≤c):=by
 unfold dc
 simp only[qT,eK]
 by_cases h1:b≤a
 ·by_cases h2:a≤c
  ·simp[h1,h2]
  ·simp[h1,h2]
 ·simp[h1]
theorem xm (a:ByteArray) (k:Int):0≤G.real.byte a k∧G.real.byte a k≤255:=by
 have e:G.real.byte a k=((a.data.getD k.toNat 0).toNat:Int):=rfl
 have:=(a.data.getD k.toNat 0).toNat_lt
 rw[e]
 omega
def okB (a:ByteArray):Nat→Nat→Bool
 |0,_=>true
 |n+1,k=>decide (65≤G.real.byte a (k:Int)∧G.real.byte a (k:Int)≤90)&&okB a n (k+1)
theorem pR (a:ByteArray) (ha:a.size≤1048576):∀(n k:Nat),k+n=a.size→co G.real TE.real a n (k:Int)=if okB a n k=true then .out () else .ret false
 |0,k,_=>by rw[co];rfl
 |n+1,k,h=>by
  rw[co,okB]
  simp only[eK,bU,al]
  rw[w64 (by omega) (by omega),show(k:Int)+1=((k+1:Nat):Int) from by omega,pR a ha n (k+1) (by omega)]
  by_cases h1:G.real.byte a (k:Int)<65
  ·rw[if_pos h1,if_neg]
   simp only[Bool.and_eq_true,decide_eq_true_eq];omega
  ·rw[if_neg h1]
   by_cases h2:90<G.real.byte a (k:Int)
   ·rw[if_pos h2,if_neg]
    simp only[Bool.and_eq_true,decide_eq_true_eq];omega
   ·rw[if_neg h2]
    have:decide (65≤G.real.byte a (k:Int)∧G.real.byte a (k:Int)≤90)=true:=by simp only[decide_eq_true_eq];omega
    rw[this,Bool.true_and]
theorem pC (a:ByteArray) (ha:a.size≤1048576):∀(n k:Nat),k+n≤a.size→bW G.real TE.real a n (k:Int)=some (if okB a n k=true then .out () else .ret false)
 |0,k,_=>by rw[bW];rfl
 |n+1,k,h=>by
  have hb:=xm a (k:Int)
  rw[bW,okB]
  simp only[bU,bc]
  rw[af (by omega),w64 (n:=G.real.byte a (k:Int)) (by omega) (by omega),hO,al,w64 (by omega) (by omega),show(k:Int)+1=((k+1:Nat):Int) from by omega,pC a ha n (k+1) (by omega)]
  by_cases h1:65≤G.real.byte a (k:Int)∧G.real.byte a (k:Int)≤90
  ·rw[if_pos h1]
   simp[h1]
  ·rw[if_neg h1]
   simp only[h1,decide_false,Bool.false_and,Bool.false_eq_true,if_false]
def Abc (a:ByteArray):Prop:=∀c∈a.data.toList,65≤c.toNat∧c.toNat≤90
theorem yc (a:ByteArray):∀(n k:Nat),okB a n k=true→∀j,k≤j→j<k+n→65≤G.real.byte a (j:Int)∧G.real.byte a (j:Int)≤90
 |0,_,_,j,h1,h2=>by omega
 |n+1,k,h,j,h1,h2=>by
  rw[okB,Bool.and_eq_true,decide_eq_true_eq] at h
  rcases Nat.lt_or_ge k j with hj|hj
  ·exact yc a n (k+1) h.2 j hj (by omega)
  ·obtain rfl:j=k:=by omega
   exact h.1
theorem y4 {a:ByteArray} (h:okB a a.size 0=true):Abc a:=fun c hc=>by
 obtain⟨j,hj,rfl⟩:=List.getElem_of_mem hc
 have hs:a.data.toList.length=a.size:=Array.length_toList
 have:=yc a a.size 0 h j (Nat.zero_le _) (by omega)
 have e:G.real.byte a (j:Int)=((a.data.getD j 0).toNat:Int):=rfl
 rw[e,Array.getD_eq_getD_getElem?,Array.getElem?_eq_getElem (by rw[Array.length_toList] at hj;exact hj),Option.getD_some] at this
 rw[Array.getElem_toList]
 omega
theorem sq (a:ByteArray) (ha:a.size≤1048576):∃r,fK G.real TE.real a=some r∧fN G.real TE.real a=some r∧(r=true→a.size=3∧Abc a):=by
 have cn:∀n:Nat,aO 0 (n:Int)=n:=fun n=>by unfold aO;omega
 unfold fK fN
 simp only[dP,ge,bc,dO,al]
 rw[af (by omega),cn,show(0:Int)=((0:Nat):Int) from rfl,pR a ha a.size 0 (by omega)]
 have e3:(3:Int)=((3:Nat):Int):=rfl
 by_cases h3:a.size=3
 ·have s3:=pC a ha 3 0 (by omega)
  cases hok:okB a a.size 0 with
  |true=>
   have habc:=y4 hok
   rw[h3] at hok
   rw[if_pos (c:=(true=true)) rfl,if_pos (c:=((a.size:Int)=3)) (by omega),e3,show aO ((0:Nat):Int) ((3:Nat):Int)=3 from rfl,s3,ah,hok]
   exact⟨true,by simp[h3],rfl,fun _=>⟨h3,habc⟩⟩
  |false=>
   rw[h3] at hok
   rw[if_neg (c:=(false=true)) (by simp),if_pos (c:=((a.size:Int)=3)) (by omega),e3,show aO ((0:Nat):Int) ((3:Nat):Int)=3 from rfl,s3,ah,hok]
   exact⟨false,rfl,rfl,fun h=>by cases h⟩
 ·rw[if_neg (c:=((a.size:Int)=3)) (by omega)]
  refine⟨false,?_,rfl,fun h=>by cases h⟩
  split
  ·rw[qo];congr 1;simp only[decide_eq_false_iff_not];omega
  ·rfl
structure LegOk (l:Leg):Prop where
 start:0≤l.Start∧l.Start≤1439
 takes:1≤l.Takes∧l.Takes≤4320
 days:1≤l.Days∧l.Days≤127
 room:0≤l.Room∧l.Room≤1000000
 from3:l.From.size=3
 to3:l.To.size=3
 ne:l.From≠l.To
 abc:Abc l.From∧Abc l.To
theorem AA (l:Leg) (hl:l.tot≤1048576):∃r,k8 G.real TE.real l=some r∧kD G.real TE.real l=some r∧(r=true→LegOk l):=by
 unfold Leg.tot at hl
 obtain⟨r1,a1,a2,a3⟩:=sq l.From (by omega)
 obtain⟨r2,b1,b2,b3⟩:=sq l.To (by omega)
 unfold k8 kD
 rw[a1,a2,b1,b2]
 simp only[ah,bc,gW,hO,al,bL]
 cases r1 with
 |false=>exact⟨false,rfl,rfl,fun h=>by cases h⟩
 |true=>
  cases r2 with
  |false=>exact⟨false,rfl,rfl,fun h=>by cases h⟩
  |true=>
   rw[cK,cK]
   by_cases c0:l.From=l.To
   ·rw[if_pos c0];exact⟨false,rfl,rfl,fun h=>by cases h⟩
   ·rw[if_neg c0]
    by_cases d1:0≤l.Start∧l.Start≤1439
    ·rw[if_pos d1]
     by_cases d2:1≤l.Takes∧l.Takes≤4320
     ·rw[if_pos d2]
      by_cases d3:1≤l.Days∧l.Days≤127
      ·rw[if_pos d3];exact⟨_,rfl,rfl,fun h=>⟨d1,d2,d3,by simpa using h,(a3 rfl).1,(b3 rfl).1,c0,(a3 rfl).2,(b3 rfl).2⟩⟩
      ·rw[if_neg d3];exact⟨false,rfl,rfl,fun h=>by cases h⟩
     ·rw[if_neg d2];exact⟨false,rfl,rfl,fun h=>by cases h⟩
    ·rw[if_neg d1];exact⟨false,rfl,rfl,fun h=>by cases h⟩
theorem yu:∀(l:List Leg),(∀x∈l,Leg.tot x≤1048576)→∃o,bD G.real TE.real l=some o∧bG G.real TE.real l=some o∧(o=.ret false∨(o=.out ()∧∀x∈l,LegOk x))
 |[],_=>by rw[bD,bG];exact⟨_,rfl,rfl,Or.inr ⟨rfl,by simp⟩⟩
 |z::l,h=>by
  obtain⟨r,a1,a2,a3⟩:=AA z (h z (by simp))
  obtain⟨o,b1,b2,b3⟩:=yu l fun x hx=>h x (by simp[hx])
  rw[bD,bG,a1,a2,ah,ah]
  cases r with
  |true=>
   rw[cK,cK,b1,b2]
   refine⟨o,rfl,rfl,?_⟩
   rcases b3 with b3|⟨b3,b4⟩
   ·exact Or.inl b3
   ·refine Or.inr ⟨b3,fun x hx=>?_⟩
    rcases List.mem_cons.1 hx with rfl|hx
    ·exact a3 rfl
    ·exact b4 x hx
  |false=>exact⟨_,rfl,rfl,Or.inl rfl⟩
theorem xj (n:Network) (hn:n.Off.length≤1048576):∀(l:List Int) (k:Nat),n.Off.drop k=l→∃o,bj G.real TE.real n l (k:Int)=some o∧bp G.real TE.real n l (k:Int)=some o∧(o=.ret false∨o=.out ())
 |[],k,_=>by rw[bj,bp];exact⟨_,rfl,rfl,Or.inr rfl⟩
 |z::l,k,h=>by
  have hk:k<n.Off.length:=by
   have:=congrArg List.length h
   simp at this;omega
  have ht:n.Off.drop (k+1)=l:=by
   have:=congrArg List.tail h
   simpa using this
  obtain⟨o,b1,b2,b3⟩:=xj n hn l (k+1) ht
  rw[bj,bp]
  simp only[bc,gW,hO,al,eK,kA,bU,qT,d9]
  rw[w64 (n:=(k:Int)+1) (by omega) (by omega),show(k:Int)+1=((k+1:Nat):Int) from by omega,b1,b2]
  by_cases c1:0≤z∧z≤60
  ·rw[if_pos c1]
   by_cases c2:(0:Int)<k
   ·rw[if_pos c2,w64 (n:=(k:Int)-1) (by omega) (by omega),af (by omega),show((k:Int)-1).toNat=k-1 from by omega,ay (List.getElem?_eq_getElem (show k-1<n.Off.length by omega))]
    split
    ·exact⟨_,rfl,rfl,Or.inl rfl⟩
    ·exact⟨o,rfl,rfl,b3⟩
   ·rw[if_neg c2];exact⟨o,rfl,rfl,b3⟩
  ·rw[if_neg c1];exact⟨_,rfl,rfl,Or.inl rfl⟩
structure NetOk (n:Network):Prop where
 len:n.Legs.length≤20
 legs:∀x∈n.Legs,LegOk x
 change:0≤n.Change∧n.Change≤240
theorem tu (n:Network) (h:n.tot≤1048576):∃r,dh G.real TE.real n=some r∧cP G.real TE.real n=some r∧(r=true→NetOk n):=by
 have h2:=h
 unfold Network.tot at h2
 obtain⟨o,a1,a2,a3⟩:=yu n.Legs fun x hx=>by have h3:Leg.tot x≤fT (fun y=>Leg.tot y) n.Legs:=nP (fun y=>Leg.tot y) hx;omega
 obtain⟨p,b1,b2,b3⟩:=xj n (by omega) n.Off 0 rfl
 unfold dh cP
 rw[show(0:Int)=((0:Nat):Int) from rfl,a1,a2,b1,b2]
 simp only[ah,bc,gW,hO,qT,al,iY,nN]
 rcases a3 with rfl|⟨rfl,a4⟩
 ·exact⟨false,rfl,rfl,fun h=>by cases h⟩
 ·rcases b3 with rfl|rfl
  ·exact⟨false,rfl,rfl,fun h=>by cases h⟩
  ·simp only[qo]
   by_cases c1:(n.Legs.length:Int)≤20
   ·rw[if_pos c1]
    split
    ·exact⟨_,rfl,rfl,fun h=>⟨by omega,a4,by simpa using h⟩⟩
    ·exact⟨false,rfl,rfl,fun h=>by cases h⟩
   ·rw[if_neg c1];exact⟨false,rfl,rfl,fun h=>by cases h⟩
def netB (n:Network):Bool:=(cP G.real TE.real n).getD false
theorem zV {n:Network} (h:n.tot≤1048576):dh G.real TE.real n=some (netB n):=by
 obtain⟨r,a1,a2,_⟩:=tu n h
 rw[a1];unfold netB;rw[a2];rfl
theorem zQ {n:Network} (h:n.tot≤1048576):cP G.real TE.real n=some (netB n):=by
 obtain⟨r,a1,a2,_⟩:=tu n h
 unfold netB;rw[a2];rfl
theorem fu {n:Network} (h:n.tot≤1048576) (hb:netB n=true):NetOk n:=by
 obtain⟨r,a1,a2,a3⟩:=tu n h
 refine a3 ?_
 unfold netB at hb;rw[a2] at hb;exact hb
def fA (n:Network) (l:Int):Leg:=n.Legs.getD l.toNat ⟨.empty,.empty,0,0,0,0⟩
theorem fo {n:Network} {l:Int} (h0:0≤l) (h1:l<n.Legs.length):n.Legs[l.toNat]?=some (fA n l):=by
 unfold fA
 rw[List.getD_eq_getElem?_getD,List.getElem?_eq_getElem (by omega)]
 rfl
theorem qx {n:Network} {l:Int} (h0:0≤l) (h1:l<n.Legs.length):fA n l∈n.Legs:=List.mem_of_getElem? (fo h0 h1)
end Go.Vs
namespace Go.Vs
open Go.IntWalk
theorem Bt (a:Int):G.real.band .i64 a 1=0∨G.real.band .i64 a 1=1:=by
 have h:(BitVec.ofInt 64 a&&& BitVec.ofInt 64 1).toNat≤1:=by
  rw[BitVec.toNat_and]
  exact Nat.le_trans Nat.and_le_right (by decide)
 have e:G.real.band .i64 a 1=(((BitVec.ofInt 64 a&&& BitVec.ofInt 64 1).toNat:Nat):Int):=w64 (n:=(((BitVec.ofInt 64 a&&& BitVec.ofInt 64 1).toNat:Nat):Int)) (by omega) (by omega)
 rw[e]
 omega
theorem yU (a:Int) (l:List Int):eg G.real TE.real a l=if a∈l then .ret false else .out ():=by
 induction l with
 |nil=>rw[eg];simp
 |cons z l ih=>
  rw[eg,ih]
  simp only[dO,al]
  by_cases h:z=a
  ·rw[if_pos h,if_pos (by simp[h])]
  ·rw[if_neg h]
   by_cases h2:a∈l
   ·rw[if_pos h2,if_pos (by simp[h2])]
   ·rw[if_neg h2,if_neg (by simp[h2];exact fun e=>h e.symm)]
theorem AR (a:Int) (l:List Int):dg G.real TE.real a l=if a∈l then .ret true else .out ():=by
 induction l with
 |nil=>rw[dg];simp
 |cons z l ih=>
  rw[dg,ih]
  simp only[dO,al]
  by_cases h:z=a
  ·rw[if_pos h,if_pos (by simp[h])]
  ·rw[if_neg h]
   by_cases h2:a∈l
   ·rw[if_pos h2,if_pos (by simp[h2])]
   ·rw[if_neg h2,if_neg (by simp[h2];exact fun e=>h e.symm)]
theorem qD (n:Network) (h:n.Legs.length≤1048576) (a b:Int):∃r,lD G.real TE.real n a b=some r∧eZ G.real TE.real n a b=some r∧(r=true→0≤a∧a<n.Legs.length∧0≤b∧b≤60):=by
 unfold lD eZ nh
 simp only[bc,eK,qT,kA,iY,gW,hO,al,yU,AR,d9,dO,kF]
 rw[w64 (n:=(n.Legs.length:Int)-1) (by omega) (by omega)]
 by_cases c1:a<0
 ·rw[if_pos c1,if_neg (by omega)];exact⟨false,rfl,rfl,fun h=>by cases h⟩
 ·rw[if_neg c1]
  by_cases c2:(n.Legs.length:Int)≤a
  ·rw[if_pos c2,if_neg (by omega)];exact⟨false,rfl,rfl,fun h=>by cases h⟩
  ·rw[if_neg c2,if_pos (c:=0≤a∧a≤(n.Legs.length:Int)-1) (by omega)]
   by_cases c3:0≤b∧b≤60
   ·have hx:n.Legs[a.toNat]?=some n.Legs[a.toNat]:=List.getElem?_eq_getElem (by omega)
    have hr:0≤b.tmod 7:=Int.tmod_nonneg _ c3.1
    rw[if_pos c3,if_pos c3,af (by omega),af (by omega),ay hx,ay hx,af hr,af hr]
    rcases Bt (G.real.shr .i64 n.Legs[a.toNat].Days (b.tmod 7)) with e|e
    ·rw[e,if_pos rfl,if_neg (by decide)];exact⟨false,rfl,rfl,fun h=>by cases h⟩
    ·rw[e,if_neg (by decide),if_pos rfl]
     by_cases c4:b∈n.Off
     ·rw[if_pos c4,if_pos c4];exact⟨false,rfl,rfl,fun h=>by cases h⟩
     ·rw[if_neg c4,if_neg c4];exact⟨true,rfl,rfl,fun _=>by omega⟩
   ·rw[if_neg c3,if_neg c3];exact⟨false,rfl,rfl,fun h=>by cases h⟩
def runsB (n:Network) (a b:Int):Bool:=(eZ G.real TE.real n a b).getD false
theorem A7 {n:Network} (h:n.Legs.length≤1048576) (a b:Int):lD G.real TE.real n a b=some (runsB n a b):=by
 obtain⟨r,a1,a2,_⟩:=qD n h a b
 rw[a1];unfold runsB;rw[a2];rfl
theorem xo {n:Network} (h:n.Legs.length≤1048576) (a b:Int):eZ G.real TE.real n a b=some (runsB n a b):=by
 obtain⟨r,a1,a2,_⟩:=qD n h a b
 unfold runsB;rw[a2];rfl
theorem gk {n:Network} (h:n.Legs.length≤1048576) {a b:Int} (hb:runsB n a b=true):0≤a∧a<n.Legs.length∧0≤b∧b≤60:=by
 obtain⟨r,a1,a2,a3⟩:=qD n h a b
 refine a3 ?_
 unfold runsB at hb;rw[a2] at hb;exact hb
theorem li {n:Network} (h:n.tot≤1048576):n.Legs.length≤1048576:=by unfold Network.tot at h;omega
def ik (n:Network) (q:Trip):Bool:=netB n&&runsB n q.Leg q.Day
theorem A0 {n:Network} (h:n.tot≤1048576) (q:Trip):f7 G.real TE.real n q=some (ik n q):=by
 unfold f7 kP ik
 rw[zV h,A7 (li h)]
 cases netB n<;>rfl
theorem sX {n:Network} (h:n.tot≤1048576) (q:Trip):ew G.real TE.real n q=some (ik n q):=by
 unfold ew lh ik
 rw[zQ h,xo (li h)]
 cases netB n<;>rfl
def stN (n:Network) (l d:Int):Int:=d*1440+(fA n l).Start
def enN (n:Network) (l d:Int):Int:=stN n l d+(fA n l).Takes
theorem lz {n:Network} (hn:NetOk n) {l d:Int} (h0:0≤l) (h1:l<n.Legs.length) (h2:0≤d) (h3:d≤60):d*1440≤stN n l d∧stN n l d≤87839∧stN n l d<enN n l d∧enN n l d≤92159:=by
 have:=hn.legs _ (qx h0 h1)
 have h4:=this.start
 have h5:=this.takes
 unfold enN stN
 omega
theorem mU {n:Network} (hn:NetOk n) {l d:Int} (h0:0≤l) (h1:l<n.Legs.length) (h2:0≤d) (h3:d≤60):eW G.real TE.real n ⟨l,d⟩=some (stN n l d):=by
 have hr:=lz hn h0 h1 h2 h3
 unfold eW
 simp only[d9,bU,jD]
 rw[af h0,ay (fo h0 h1),w64 (n:=d*1440) (by omega) (by omega),w64 (by unfold stN at hr;omega) (by unfold stN at hr;omega)]
 rfl
theorem rg {n:Network} (hn:NetOk n) {l d:Int} (h0:0≤l) (h1:l<n.Legs.length) (h2:0≤d) (h3:d≤60):cA G.real TE.real n ⟨l,d⟩=some (stN n l d):=by
 have hr:=lz hn h0 h1 h2 h3
 unfold cA
 simp only[d9,bU,jD]
 rw[af h0,ay (fo h0 h1),w64 (n:=d*1440) (by omega) (by omega),w64 (by unfold stN at hr;omega) (by unfold stN at hr;omega)]
 rfl
theorem zH {n:Network} (hn:NetOk n) {l d:Int} (h0:0≤l) (h1:l<n.Legs.length) (h2:0≤d) (h3:d≤60):lS G.real TE.real n ⟨l,d⟩=some (enN n l d):=by
 have hr:=lz hn h0 h1 h2 h3
 unfold lS
 rw[mU hn h0 h1 h2 h3,ah]
 simp only[d9,bU]
 rw[af h0,ay (fo h0 h1),w64 (by unfold enN at hr;omega) (by unfold enN at hr;omega)]
 rfl
theorem zJ {n:Network} (hn:NetOk n) {l d:Int} (h0:0≤l) (h1:l<n.Legs.length) (h2:0≤d) (h3:d≤60):fW G.real TE.real n ⟨l,d⟩=some (enN n l d):=by
 have hr:=lz hn h0 h1 h2 h3
 unfold fW
 rw[rg hn h0 h1 h2 h3,ah]
 simp only[d9,bU]
 rw[af h0,ay (fo h0 h1),w64 (by unfold enN at hr;omega) (by unfold enN at hr;omega)]
 rfl
end Go.Vs
namespace Go.Vs
open Go.IntWalk
theorem sj (w:List ByteArray) (x:ByteArray):G.real.hasS w x=true↔x∈w:=by
 have e:G.real.hasS w x=hasL w x:=rfl
 rw[e]
 unfold hasL
 simp
theorem w7 (w:List ByteArray) (x z:ByteArray):z∈G.real.putS w x↔z∈w∨z=x:=by
 have ep:G.real.putS w x=putL w x:=rfl
 rw[ep]
 unfold putL
 split
 ·rename_i h
  exact⟨.inl,fun hh=>hh.elim id (fun e=>e▸h)⟩
 ·simp
theorem tf (a b:ByteArray):∀(n k:Nat) (w3 w4:List ByteArray),k+n=2→w4.length+n≤5000000→(∀p,p∈w3↔p∈w4)→w4.Nodup→
 ∃u3 u4,bC G.real TE.real [a,b] n (k:Int) w3 w4=some (u3,u4)∧(∀p,p∈u3↔p∈u4)∧u4.Nodup∧u4.length≤w4.length+n∧∀p,p∈u4↔p∈w4∨p∈[a,b].drop k
 |0,k,w3,w4,hk,_,h,hn=>by
  rw[bC]
  exact⟨w3,w4,rfl,h,hn,by omega,fun p=>by rw[List.drop_of_length_le (by simp;omega)];simp⟩
 |n+1,k,w3,w4,hk,hl,h,hn=>by
  have hkl:k<[a,b].length:=by simp;omega
  have hx:[a,b][k]?=some ([a,b][k]'hkl):=List.getElem?_eq_getElem hkl
  have hd:=List.drop_eq_getElem_cons hkl
  generalize [a,b][k]'hkl=x at hx hd
  rw[bC]
  simp only[d9,Int.toNat_natCast,bc,bU]
  rw[ay hx,w64 (by omega) (by omega),show(k:Int)+1=((k+1:Nat):Int) from by omega]
  cases hb:G.real.hasS w3 x with
  |true=>
   have hm:=(sj _ _).1 hb
   rw[cK]
   obtain⟨u3,u4,e1,e2,e5,e3,e4⟩:=tf a b n (k+1) w3 w4 (by omega) (by omega) h hn
   refine⟨u3,u4,e1,e2,e5,by omega,fun p=>?_⟩
   rw[e4,hd]
   simp only[List.mem_cons]
   constructor
   ·rintro(q|q)
    ·exact .inl q
    ·exact .inr (.inr q)
   ·rintro(q|rfl|q)
    ·exact .inl q
    ·exact .inl ((h _).1 hm)
    ·exact .inr q
  |false=>
   have hm:x∉w3:=fun hh=>by rw[(sj _ _).2 hh] at hb;cases hb
   rw[mM,af (by simp only[List.length_cons,List.length_nil];omega)]
   obtain⟨u3,u4,e1,e2,e5,e3,e4⟩:=tf a b n (k+1) (G.real.putS w3 x) (w4++[x]) (by omega) (by simp;omega) (fun p=>by
    rw[w7];simp[h p]) (by
    rw[List.nodup_append]
    refine⟨hn,by simp,fun y hy z hz=>?_⟩
    simp only[List.mem_singleton] at hz
    subst hz
    intro e;subst e
    exact hm ((h _).2 hy))
   refine⟨u3,u4,e1,e2,e5,by simp at e3;omega,fun p=>?_⟩
   rw[e4,hd]
   simp only[List.mem_append,List.mem_cons,List.not_mem_nil,or_false]
   constructor
   ·rintro((q|q)|q)
    ·exact .inl q
    ·exact .inr (.inl q)
    ·exact .inr (.inr q)
   ·rintro(q|q|q)
    ·exact .inl (.inl q)
    ·exact .inl (.inr q)
    ·exact .inr q
def oN (l:List Leg):List ByteArray:=l.flatMap fun x=>[x.From,x.To]
theorem pP (l:List Leg) (p:ByteArray):p∈oN l↔∃x∈l,p=x.From∨p=x.To:=by
 unfold oN
 simp[List.mem_flatMap]
theorem xw:∀(l:List Leg) (w1 w2:List ByteArray),w2.length+2*l.length≤4194304→(∀p,p∈w1↔p∈w2)→w2.Nodup→
 ∃u,bQ G.real TE.real l w1 w2=some u∧u.Nodup∧u.length≤w2.length+2*l.length∧∀p,p∈u↔p∈w2∨p∈oN l
 |[],w1,w2,_,_,hn=>by rw[bQ];exact⟨w2,rfl,hn,by simp,by simp[oN]⟩
 |z::l,w1,w2,hl,h,hn=>by
  simp only[List.length_cons] at hl
  obtain⟨u3,u4,e1,e2,e5,e3,e4⟩:=tf z.From z.To 2 0 w1 w2 rfl (by omega) h hn
  obtain⟨u,f1,f4,f2,f3⟩:=xw l u3 u4 (by omega) e2 e5
  rw[bQ]
  simp only[dP,fz,List.length_cons,List.length_nil,lP]
  rw[af (by omega),show aO 0 (((0+1+1:Nat)):Int)=2 from rfl,show(0:Int)=((0:Nat):Int) from rfl,e1,ah]
  refine⟨u,f1,f4,by omega,fun p=>?_⟩
  rw[f3,e4]
  simp only[oN,List.flatMap_cons,List.mem_append,List.drop_zero,List.mem_cons,List.not_mem_nil,or_false,or_assoc]
def plc (n:Network):List ByteArray:=tX (oN n.Legs)
theorem BS {n:Network} (h:n.Legs.length≤1048576):eR G.real TE.real n=some (plc n):=by
 obtain⟨u,e1,e4,e2,e3⟩:=xw n.Legs [] [] (by simp;omega) (by simp) (by simp)
 simp only[List.length_nil] at e2
 unfold eR
 rw[bc,e1,ah]
 unfold fX
 rw[af (by omega),ah,af (rK u)]
 congr 1
 refine t8 (mA e4) fun x=>?_
 rw[se,e3]
 simp
def aW (p:ByteArray):List ByteArray→Nat
 |[]=>0
 |x::l=>if bLt x p then aW p l+1 else 0
theorem uG (p:ByteArray):∀l,aW p l≤l.length
 |[]=>by simp[aW]
 |x::l=>by
  have:=uG p l
  unfold aW
  split<;>simp<;>omega
theorem ql (p:ByteArray):∀l:List ByteArray,∀z∈l.take (aW p l),bLt z p
 |[],z,h=>by simp at h
 |x::l,z,h=>by
  unfold aW at h
  split at h
  ·rename_i hx
   simp only[List.take_succ_cons,List.mem_cons] at h
   rcases h with rfl|h
   ·exact hx
   ·exact ql p l z h
  ·simp at h
theorem lv (p:ByteArray):∀{l:List ByteArray},l.Pairwise bLt→∀z∈l.drop (aW p l),¬bLt z p
 |[],_,z,h=>by simp at h
 |x::l,hs,z,h=>by
  obtain⟨h1,h2⟩:=List.pairwise_cons.1 hs
  unfold aW at h
  split at h
  ·exact lv p h2 z (by simpa using h)
  ·rename_i hx
   simp only[List.drop_zero,List.mem_cons] at h
   rcases h with rfl|h
   ·exact hx
   ·exact fun hz=>hx (pQ (h1 _ h) hz)
def oO (l:List ByteArray) (p:ByteArray):List ByteArray:=if l[aW p l]?=some p then l else l.take (aW p l)++p::l.drop (aW p l)
theorem ym (l:List ByteArray) (p z:ByteArray):z∈oO l p↔z∈l∨z=p:=by
 unfold oO
 split
 ·rename_i h
  exact⟨.inl,fun hh=>hh.elim id (fun e=>e▸List.mem_of_getElem? h)⟩
 ·have hm:z∈l↔z∈l.take (aW p l)∨z∈l.drop (aW p l):=by rw[←List.mem_append,List.take_append_drop]
  rw[List.mem_append,List.mem_cons,hm]
  constructor
  ·rintro(h|h|h)
   ·exact .inl (.inl h)
   ·exact .inr h
   ·exact .inl (.inr h)
  ·rintro((h|h)|h)
   ·exact .inl h
   ·exact .inr (.inr h)
   ·exact .inr (.inl h)
theorem rY {l:List ByteArray} (p:ByteArray) (hs:l.Pairwise bLt):(oO l p).Pairwise bLt:=by
 unfold oO
 split
 ·exact hs
 ·rename_i hne
  have hap:l.Pairwise bLt:=hs
  rw[←List.take_append_drop (aW p l) l,List.pairwise_append] at hap
  obtain⟨a1,a2,a3⟩:=hap
  have hd:∀z∈l.drop (aW p l),bLt p z:=fun z hz=>by
   rcases ud p z with h|h|h
   ·exact h
   ·subst h
    exfalso
    cases hdr:l.drop (aW p l) with
    |nil=>rw[hdr] at hz;simp at hz
    |cons y m=>
     have hy:l[aW p l]?=some y:=by
      have:(l.drop (aW p l))[0]?=some y:=by rw[hdr];rfl
      simpa using this
     rw[hdr] at hz
     rcases List.mem_cons.1 hz with e|hz
     ·subst e;exact hne hy
     ·rw[hdr,List.pairwise_cons] at a2
      exact lv p hs y (by rw[hdr];simp) (a2.1 _ hz)
   ·exact absurd h (lv p hs z hz)
  rw[List.pairwise_append]
  refine⟨a1,List.pairwise_cons.2 ⟨hd,a2⟩,fun x hx y hy=>?_⟩
  rcases List.mem_cons.1 hy with rfl|hy
  ·exact ql y l x hx
  ·exact a3 x hx y hy
theorem wR (l:List ByteArray) (p:ByteArray):(oO l p).length≤l.length+1:=by
 unfold oO
 split
 ·omega
 ·simp;omega
theorem xF (w:List ByteArray) (x:Leg) (hw:w.length≤4194304):∀(n k:Nat),k+n=w.length→bA G.real TE.real w x n (k:Int)=some ((k+aW x.To (w.drop k):Nat):Int)
 |0,k,h=>by rw[bA,List.drop_of_length_le (by omega)];rfl
 |n+1,k,h=>by
  have hk:k<w.length:=by omega
  rw[bA]
  simp only[d9,Int.toNat_natCast,bU,z0,al]
  rw[ay (List.getElem?_eq_getElem hk),w64 (by omega) (by omega),show(k:Int)+1=((k+1:Nat):Int) from by omega,xF w x hw n (k+1) (by omega),List.drop_eq_getElem_cons hk,aW]
  split
  ·congr 2;omega
  ·rfl
theorem yC (w:List ByteArray) (x:Leg) (hw:w.length≤4194304):∀(n k:Nat),k+n=w.length→bz G.real TE.real w x n (k:Int)=some ((k+aW x.From (w.drop k):Nat):Int)
 |0,k,h=>by rw[bz,List.drop_of_length_le (by omega)];rfl
 |n+1,k,h=>by
  have hk:k<w.length:=by omega
  rw[bz]
  simp only[d9,Int.toNat_natCast,bU,z0,al]
  rw[ay (List.getElem?_eq_getElem hk),w64 (by omega) (by omega),show(k:Int)+1=((k+1:Nat):Int) from by omega,yC w x hw n (k+1) (by omega),List.drop_eq_getElem_cons hk,aW]
  split
  ·congr 2;omega
  ·rfl
theorem uv {γ:Type} {w:List ByteArray} {p:ByteArray} (hw:w.length≤4194304) {k:List ByteArray→Option γ} {k2:Option γ} (h2:w[aW p w]?=some p→k2=k w):
 (br (decide (((aW p w:Nat):Int)=(w.length:Int)))
  (gd ((0:Int)≤0∧0≤((aW p w:Nat):Int)∧((aW p w:Nat):Int)≤((w.length:Nat):Int))<|
   gd (Int.toNat 0+(Int.toNat ((aW p w:Nat):Int)-Int.toNat 0)≤w.length)<|
   gd ((([]:List ByteArray).length+(List.take (Int.toNat ((aW p w:Nat):Int)-Int.toNat 0) (List.drop (Int.toNat 0) w)).length)*16≤70368744177664)<|
   gd ((([]++(List.take (Int.toNat ((aW p w:Nat):Int)-Int.toNat 0) (List.drop (Int.toNat 0) w))).length+[p].length)*16≤70368744177664)<|
   gd ((0:Int)≤((aW p w:Nat):Int)∧((aW p w:Nat):Int)≤(w.length:Int)∧(w.length:Int)≤((w.length:Nat):Int))<|
   gd (Int.toNat ((aW p w:Nat):Int)+(Int.toNat (w.length:Int)-Int.toNat ((aW p w:Nat):Int))≤w.length)<|
   gd ((([]++(List.take (Int.toNat ((aW p w:Nat):Int)-Int.toNat 0) (List.drop (Int.toNat 0) w))++[p]).length+(List.take (Int.toNat (w.length:Int)-Int.toNat ((aW p w:Nat):Int)) (List.drop (Int.toNat ((aW p w:Nat):Int)) w)).length)*16≤70368744177664)<|
   k ([]++(List.take (Int.toNat ((aW p w:Nat):Int)-Int.toNat 0) (List.drop (Int.toNat 0) w))++[p]++(List.take (Int.toNat (w.length:Int)-Int.toNat ((aW p w:Nat):Int)) (List.drop (Int.toNat ((aW p w:Nat):Int)) w))))
  (gd ((0:Int)≤((aW p w:Nat):Int)∧((aW p w:Nat):Int)<((w.length:Nat):Int))<|
   gt w (Int.toNat ((aW p w:Nat):Int)) fun x3=>
   br (decide (x3=p)) k2
   (gd ((0:Int)≤0∧0≤((aW p w:Nat):Int)∧((aW p w:Nat):Int)≤((w.length:Nat):Int))<|
   gd (Int.toNat 0+(Int.toNat ((aW p w:Nat):Int)-Int.toNat 0)≤w.length)<|
   gd ((([]:List ByteArray).length+(List.take (Int.toNat ((aW p w:Nat):Int)-Int.toNat 0) (List.drop (Int.toNat 0) w)).length)*16≤70368744177664)<|
   gd ((([]++(List.take (Int.toNat ((aW p w:Nat):Int)-Int.toNat 0) (List.drop (Int.toNat 0) w))).length+[p].length)*16≤70368744177664)<|
   gd ((0:Int)≤((aW p w:Nat):Int)∧((aW p w:Nat):Int)≤(w.length:Int)∧(w.length:Int)≤((w.length:Nat):Int))<|
   gd (Int.toNat ((aW p w:Nat):Int)+(Int.toNat (w.length:Int)-Int.toNat ((aW p w:Nat):Int))≤w.length)<|
   gd ((([]++(List.take (Int.toNat ((aW p w:Nat):Int)-Int.toNat 0) (List.drop (Int.toNat 0) w))++[p]).length+(List.take (Int.toNat (w.length:Int)-Int.toNat ((aW p w:Nat):Int)) (List.drop (Int.toNat ((aW p w:Nat):Int)) w)).length)*16≤70368744177664)<|
   k ([]++(List.take (Int.toNat ((aW p w:Nat):Int)-Int.toNat 0) (List.drop (Int.toNat 0) w))++[p]++(List.take (Int.toNat (w.length:Int)-Int.toNat ((aW p w:Nat):Int)) (List.drop (Int.toNat ((aW p w:Nat):Int)) w))))))=k (oO w p):=by
 have hle:=uG p w
 have hv:[]++(List.take (Int.toNat ((aW p w:Nat):Int)-Int.toNat 0) (List.drop (Int.toNat 0) w))++[p]++(List.take (Int.toNat (w.length:Int)-Int.toNat ((aW p w:Nat):Int)) (List.drop (Int.toNat ((aW p w:Nat):Int)) w))=w.take (aW p w)++p::w.drop (aW p w):=by
  simp only[Int.toNat_natCast,Int.toNat_zero,Nat.sub_zero,List.drop_zero,List.nil_append]
  rw[List.take_of_length_le (l:=List.drop (aW p w) w) (by simp)]
  simp
 have hlt:(List.take (aW p w) w).length≤w.length:=by simp;omega
 by_cases hc:aW p w=w.length
 ·rw[al,if_pos (by omega)]
  repeat rw[af (by simp;omega)]
  rw[hv]
  unfold oO
  rw[if_neg]
  rw[List.getElem?_eq_none (by omega)]
  simp
 ·have hx:w[Int.toNat ((aW p w:Nat):Int)]?=some (w[aW p w]'(by omega)):=by
   rw[Int.toNat_natCast];exact List.getElem?_eq_getElem (by omega)
  rw[al,if_neg (by omega),af (by omega),ay hx,al]
  by_cases he:w[aW p w]'(by omega)=p
  ·have hp:w[aW p w]?=some p:=by rw[List.getElem?_eq_getElem (by omega),he]
   rw[if_pos he,h2 hp]
   unfold oO
   rw[if_pos hp]
  ·rw[if_neg he]
   repeat rw[af (by simp;omega)]
   rw[hv]
   unfold oO
   rw[if_neg]
   rw[List.getElem?_eq_getElem (by omega)]
   simpa using he
def o8 (n:Network) (v:Nat):ByteArray:=if v%2=1 then(fA n ((v/2:Nat):Int)).To else(fA n ((v/2:Nat):Int)).From
theorem wX (n:Network) (hn:n.Legs.length≤1048576):∀(m v:Nat) (w:List ByteArray),v+m=2*n.Legs.length→w.length≤v→w.Pairwise bLt→
 ∃u,az G.real TE.real n m (v:Int) w=some u∧u.Pairwise bLt∧∀z,z∈u↔z∈w∨∃j,v≤j∧j<2*n.Legs.length∧z=o8 n j
 |0,v,w,h,_,hs=>by
  rw[az]
  refine⟨w,rfl,hs,fun z=>⟨.inl,?_⟩⟩
  rintro(h2|⟨j,h1,h2,_⟩)
  ·exact h2
  ·omega
 |m+1,v,w,h,hl,hs=>by
  have hq:Int.tdiv (v:Int) 2=((v/2:Nat):Int):=by rw[Int.tdiv_eq_ediv_of_nonneg (by omega)];omega
  have hr:Int.tmod (v:Int) 2=((v%2:Nat):Int):=by rw[Int.tmod_eq_emod_of_nonneg (by omega)];omega
  have hlt:v/2<n.Legs.length:=by omega
  have hg:n.Legs[v/2]?=some (fA n ((v/2:Nat):Int)):=by
   have:=fo (n:=n) (l:=((v/2:Nat):Int)) (by omega) (by omega)
   rwa [Int.toNat_natCast] at this
  obtain⟨u,e1,e2,e3⟩:=wX n hn m (v+1) (oO w (o8 n v)) (by omega) (by have:=wR w (o8 n v);omega) (rY _ hs)
  refine⟨u,?_,e2,fun z=>?_⟩
  ·rw[←e1,az]
   simp only[nX,kF,bU,d9,dP,fz,dO,hq,hr,bc,bL,AV,Af]
   rw[w64 (n:=((v/2:Nat):Int)) (by omega) (by omega),af (by omega),Int.toNat_natCast (v/2),ay hg,w64 (n:=(v:Int)+1) (by omega) (by omega),show(v:Int)+1=((v+1:Nat):Int) from by omega]
   have cn:aO 0 (w.length:Int)=w.length:=by unfold aO;omega
   have z2:bA G.real TE.real w (fA n ((v/2:Nat):Int)) w.length 0=some ((aW (fA n ((v/2:Nat):Int)).To w:Nat):Int):=by simpa using xF w (fA n ((v/2:Nat):Int)) (by omega) w.length 0 (by omega)
   have z3:bz G.real TE.real w (fA n ((v/2:Nat):Int)) w.length 0=some ((aW (fA n ((v/2:Nat):Int)).From w:Nat):Int):=by simpa using yC w (fA n ((v/2:Nat):Int)) (by omega) w.length 0 (by omega)
   rw[af (c:=(0:Int)≤((v/2:Nat):Int)) (by omega),af (by omega),cn,z2,z3,ah,ah]
   by_cases hv:v%2=1
   ·have hp:o8 n v=(fA n ((v/2:Nat):Int)).To:=by unfold o8;rw[if_pos hv]
    rw[al,if_pos (by omega)]
    have:=uv (γ:=List ByteArray) (w:=w) (p:=(fA n ((v/2:Nat):Int)).To) (by omega) (k:=fun l=>az G.real TE.real n m ((v+1:Nat):Int) l) (k2:=az G.real TE.real n m ((v+1:Nat):Int) w) (fun _=>rfl)
    rw[hp]
    exact this
   ·have hp:o8 n v=(fA n ((v/2:Nat):Int)).From:=by unfold o8;rw[if_neg hv]
    rw[al,if_neg (by omega)]
    have:=uv (γ:=List ByteArray) (w:=w) (p:=(fA n ((v/2:Nat):Int)).From) (by omega) (k:=fun l=>az G.real TE.real n m ((v+1:Nat):Int) l) (k2:=az G.real TE.real n m ((v+1:Nat):Int) w) (fun _=>rfl)
    rw[hp,af (by omega)]
    exact this
  ·rw[e3,ym]
   constructor
   ·rintro((h1|h1)|⟨j,h1,h2,h3⟩)
    ·exact .inl h1
    ·exact .inr ⟨v,by omega,by omega,h1⟩
    ·exact .inr ⟨j,by omega,h2,h3⟩
   ·rintro(h1|⟨j,h1,h2,h3⟩)
    ·exact .inl (.inl h1)
    ·by_cases hj:j=v
     ·subst hj;exact .inl (.inr h3)
     ·exact .inr ⟨j,by omega,h2,h3⟩
theorem xU {n:Network} (h:n.Legs.length≤1048576):cX G.real TE.real n=some (plc n):=by
 obtain⟨u,e1,e2,e3⟩:=wX n h (2*n.Legs.length) 0 [] (by omega) (by simp) (by simp)
 unfold cX
 simp only[bc,jD,iY]
 have cn:aO 0 (2* (n.Legs.length:Int))=2*n.Legs.length:=by unfold aO;omega
 rw[w64 (by omega) (by omega),af (by omega),cn,show(0:Int)=((0:Nat):Int) from rfl,e1,ah]
 congr 1
 refine t8 e2 fun z=>?_
 rw[e3,pP]
 simp only[List.not_mem_nil,false_or]
 constructor
 ·rintro⟨j,_,h2,h3⟩
  have hm:fA n ((j/2:Nat):Int)∈n.Legs:=qx (by omega) (by omega)
  unfold o8 at h3
  split at h3
  ·exact⟨_,hm,.inr h3⟩
  ·exact⟨_,hm,.inl h3⟩
 ·rintro⟨x,hx,hz⟩
  obtain⟨i,hi,rfl⟩:=List.getElem_of_mem hx
  have hlg:fA n ((i:Nat):Int)=n.Legs[i]:=by
   have:=fo (n:=n) (l:=((i:Nat):Int)) (by omega) (by omega)
   rw[Int.toNat_natCast,List.getElem?_eq_getElem hi] at this
   exact(Option.some.inj this).symm
  rcases hz with hz|hz
  ·refine⟨2*i,by omega,by omega,?_⟩
   unfold o8
   rw[if_neg (by omega),show 2*i/2=i by omega,hlg];exact hz
  ·refine⟨2*i+1,by omega,by omega,?_⟩
   unfold o8
   rw[if_pos (by omega),show(2*i+1)/2=i by omega,hlg];exact hz
theorem k9 (n:Network) (z:ByteArray):z∈plc n↔∃x∈n.Legs,z=x.From∨z=x.To:=by unfold plc;rw[rR,pP]
theorem mT (n:Network):(plc n).length≤2*n.Legs.length:=by
 refine Nat.le_trans (yF _) ?_
 unfold oN
 induction n.Legs with
 |nil=>simp
 |cons x l ih=>simp only[List.flatMap_cons,List.length_append,List.length_cons,List.length_nil];omega
theorem wz (s:ByteArray):∀(l:List ByteArray) (v:Int),0≤v→v+l.length≤4194304→bo G.real TE.real s l v=if s∈l then .ret (v+ixN l s) else .out ()
 |[],v,_,_=>by rw[bo];simp
 |z::l,v,h0,h1=>by
  simp only[List.length_cons] at h1
  rw[bo]
  simp only[bL,bU,al]
  rw[w64 (by omega) (by omega),wz s l (v+1) (by omega) (by omega)]
  by_cases h:z=s
  ·rw[if_pos h,if_pos (by simp[h])]
   unfold ixN
   rw[if_pos h];simp
  ·rw[if_neg h]
   by_cases hm:s∈l
   ·rw[if_pos hm,if_pos (by simp[hm])]
    congr 1
    conv=>rhs;unfold ixN
    rw[if_neg h];omega
   ·rw[if_neg hm,if_neg (by simp[hm];exact fun e=>h e.symm)]
theorem zS {l:List ByteArray} (h:l.length≤4194304) (s:ByteArray):eI G.real TE.real l s=ix l s:=by
 unfold eI
 rw[wz s l 0 (by omega) (by omega),bc]
 unfold ix
 split<;>simp
theorem wD (s:ByteArray):∀(l:List ByteArray) (v:Int),cd G.real TE.real s l v=bo G.real TE.real s l v
 |[],v=>by rw[cd,bo]
 |z::l,v=>by rw[cd,bo,wD s l]
theorem Bk {l:List ByteArray} (h:l.length≤4194304) (s:ByteArray):fO G.real TE.real l s=ix l s:=by
 rw[←zS h s]
 unfold fO eI
 rw[wD]
end Go.Vs
