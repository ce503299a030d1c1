/- Part of the proofs of this seat's laws: Net. No condition. -/
import Derived.Test.YticpmdigfdpmfaaGreatHa
import Derived.Test.YticpmdigfdpmfaaGreatLad
import Derived.Test.YticpmdigfdpmfaaGreatLab
import Derived.Test.YticpmdigfdpmfaaGreatLaa
import Derived.Test.YticpmdigfdpmfaaGreatLac
set_option linter.unusedVariables false
set_option linter.unusedSimpArgs false
set_option linter.unusedSectionVars false
namespace Go.Vs
open Go.IntWalk
theorem ky (a b c:Int):cT G.real TE.real a b c=decide (b≤a∧a≤c):=by
 unfold cT
 simp only[nm,cP]
 by_cases h1:b≤a
 ·by_cases h2:a≤c
  ·simp[h1,h2]
  ·simp[h1,h2]
 ·simp[h1]
theorem nK (a b c:Int):fo G.real TE.real a b c=decide (b≤a∧a≤c):=by
 unfold fo
 simp only[nm,cP]
 by_cases h1:b≤a
 ·by_cases h2:a≤c
  ·simp[h1,h2]
  ·simp[h1,h2]
 ·simp[h1]
theorem zY (a:ByteArray) (k:Int):0≤G.real.byte a k∧G.real.byte a k≤255:=by
 have e:G.real.byte a k=((a.data.getD k.toNat 0).toNat:Int):=rfl
 have:=(a.data.getD k.toNat 0).toNat_lt
 rw[e]
 omega
def okB (a:ByteArray):Nat→Nat→Bool
 |0,_=>true
 |n+1,k=>decide (65≤G.real.byte a (k:Int)∧G.real.byte a (k:Int)≤90)&&okB a n (k+1)
theorem sk (a:ByteArray) (ha:a.size≤1048576):∀(n k:Nat),k+n=a.size→c5 G.real TE.real a n (k:Int)=if okB a n k=true then .out () else .ret false
 |0,k,_=>by rw[c5];rfl
 |n+1,k,h=>by
  rw[c5,okB]
  simp only[cP,bR,ao]
  rw[w64 (by omega) (by omega),show(k:Int)+1=((k+1:Nat):Int) from by omega,sk a ha n (k+1) (by omega)]
  by_cases h1:G.real.byte a (k:Int)<65
  ·rw[if_pos h1,if_neg]
   simp only[Bool.and_eq_true,decide_eq_true_eq];omega
  ·rw[if_neg h1]
   by_cases h2:90<G.real.byte a (k:Int)
   ·rw[if_pos h2,if_neg]
    simp only[Bool.and_eq_true,decide_eq_true_eq];omega
   ·rw[if_neg h2]
    have:decide (65≤G.real.byte a (k:Int)∧G.real.byte a (k:Int)≤90)=true:=by simp only[decide_eq_true_eq];omega
    rw[this,Bool.true_and]
theorem si (a:ByteArray) (ha:a.size≤1048576):∀(n k:Nat),k+n≤a.size→da G.real TE.real a n (k:Int)=some (if okB a n k=true then .out () else .ret false)
 |0,k,_=>by rw[da];rfl
 |n+1,k,h=>by
  have hb:=zY a (k:Int)
  rw[da,okB]
  simp only[bR,aP]
  rw[aj (by omega),w64 (n:=G.real.byte a (k:Int)) (by omega) (by omega),nK,ao,w64 (by omega) (by omega),show(k:Int)+1=((k+1:Nat):Int) from by omega,si a ha n (k+1) (by omega)]
  by_cases h1:65≤G.real.byte a (k:Int)∧G.real.byte a (k:Int)≤90
  ·rw[if_pos h1]
   simp[h1]
  ·rw[if_neg h1]
   simp only[h1,decide_false,Bool.false_and,Bool.false_eq_true,if_false]
theorem tD (a:ByteArray) (ha:a.size≤1048576):∃r,g8 G.real TE.real a=some r∧gY G.real TE.real a=some r∧(r=true→a.size=3):=by
 have cn:∀n:Nat,aW 0 (n:Int)=n:=fun n=>by unfold aW;omega
 unfold g8 gY
 simp only[iu,DK,aP,ib,ao]
 rw[aj (by omega),cn,show(0:Int)=((0:Nat):Int) from rfl,sk a ha a.size 0 (by omega)]
 have e3:(3:Int)=((3:Nat):Int):=rfl
 by_cases h3:a.size=3
 ·have s3:=si a ha 3 0 (by omega)
  cases hok:okB a a.size 0 with
  |true=>
   rw[h3] at hok
   rw[if_pos (c:=(true=true)) rfl,if_pos (c:=((a.size:Int)=3)) (by omega),e3,show aW ((0:Nat):Int) ((3:Nat):Int)=3 from rfl,s3,af,hok]
   exact⟨true,by simp[h3],rfl,fun _=>h3⟩
  |false=>
   rw[h3] at hok
   rw[if_neg (c:=(false=true)) (by simp),if_pos (c:=((a.size:Int)=3)) (by omega),e3,show aW ((0:Nat):Int) ((3:Nat):Int)=3 from rfl,s3,af,hok]
   exact⟨false,rfl,rfl,fun h=>by cases h⟩
 ·rw[if_neg (c:=((a.size:Int)=3)) (by omega)]
  refine⟨false,?_,rfl,fun h=>by cases h⟩
  split
  ·rw[kJ];congr 1;simp only[decide_eq_false_iff_not];omega
  ·rfl
structure LegOk (l:Leg):Prop where
 start:0≤l.Start∧l.Start≤1439
 takes:1≤l.Takes∧l.Takes≤4320
 days:1≤l.Days∧l.Days≤127
 room:0≤l.Room∧l.Room≤1000000
 from3:l.From.size=3
 to3:l.To.size=3
 ne:l.From≠l.To
theorem Dj (l:Leg) (hl:l.tot≤1048576):∃r,nc G.real TE.real l=some r∧ni G.real TE.real l=some r∧(r=true→LegOk l):=by
 unfold Leg.tot at hl
 obtain⟨r1,a1,a2,a3⟩:=tD l.From (by omega)
 obtain⟨r2,b1,b2,b3⟩:=tD l.To (by omega)
 unfold nc ni
 rw[a1,a2,b1,b2]
 simp only[af,aP,ky,nK,ao,j5]
 cases r1 with
 |false=>exact⟨false,rfl,rfl,fun h=>by cases h⟩
 |true=>
  cases r2 with
  |false=>exact⟨false,rfl,rfl,fun h=>by cases h⟩
  |true=>
   rw[dK,dK]
   by_cases c0:l.From=l.To
   ·rw[if_pos c0];exact⟨false,rfl,rfl,fun h=>by cases h⟩
   ·rw[if_neg c0]
    by_cases d1:0≤l.Start∧l.Start≤1439
    ·rw[if_pos d1]
     by_cases d2:1≤l.Takes∧l.Takes≤4320
     ·rw[if_pos d2]
      by_cases d3:1≤l.Days∧l.Days≤127
      ·rw[if_pos d3];exact⟨_,rfl,rfl,fun h=>⟨d1,d2,d3,by simpa using h,a3 rfl,b3 rfl,c0⟩⟩
      ·rw[if_neg d3];exact⟨false,rfl,rfl,fun h=>by cases h⟩
     ·rw[if_neg d2];exact⟨false,rfl,rfl,fun h=>by cases h⟩
    ·rw[if_neg d1];exact⟨false,rfl,rfl,fun h=>by cases h⟩
theorem Bb:∀(l:List Leg),(∀x∈l,Leg.tot x≤1048576)→∃o,bZ G.real TE.real l=some o∧ca G.real TE.real l=some o∧(o=.ret false∨(o=.out ()∧∀x∈l,LegOk x))
 |[],_=>by rw[bZ,ca];exact⟨_,rfl,rfl,Or.inr ⟨rfl,by simp⟩⟩
 |z::l,h=>by
  obtain⟨r,a1,a2,a3⟩:=Dj z (h z (by simp))
  obtain⟨o,b1,b2,b3⟩:=Bb l fun x hx=>h x (by simp[hx])
  rw[bZ,ca,a1,a2,af,af]
  cases r with
  |true=>
   rw[dK,dK,b1,b2]
   refine⟨o,rfl,rfl,?_⟩
   rcases b3 with b3|⟨b3,b4⟩
   ·exact Or.inl b3
   ·refine Or.inr ⟨b3,fun x hx=>?_⟩
    rcases List.mem_cons.1 hx with rfl|hx
    ·exact a3 rfl
    ·exact b4 x hx
  |false=>exact⟨_,rfl,rfl,Or.inl rfl⟩
theorem Bg (n:Network) (hn:n.Off.length≤1048576):∀(l:List Int) (k:Nat),n.Off.drop k=l→∃o,bP G.real TE.real n l (k:Int)=some o∧bG G.real TE.real n l (k:Int)=some o∧(o=.ret false∨o=.out ())
 |[],k,_=>by rw[bP,bG];exact⟨_,rfl,rfl,Or.inr rfl⟩
 |z::l,k,h=>by
  have hk:k<n.Off.length:=by
   have:=congrArg List.length h
   simp at this;omega
  have ht:n.Off.drop (k+1)=l:=by
   have:=congrArg List.tail h
   simpa using this
  obtain⟨o,b1,b2,b3⟩:=Bg n hn l (k+1) ht
  rw[bP,bG]
  simp only[aP,ky,nK,ao,cP,i5,bR,nm,cw]
  rw[w64 (n:=(k:Int)+1) (by omega) (by omega),show(k:Int)+1=((k+1:Nat):Int) from by omega,b1,b2]
  by_cases c1:0≤z∧z≤60
  ·rw[if_pos c1]
   by_cases c2:(0:Int)<k
   ·rw[if_pos c2,w64 (n:=(k:Int)-1) (by omega) (by omega),aj (by omega),show((k:Int)-1).toNat=k-1 from by omega,ax (List.getElem?_eq_getElem (show k-1<n.Off.length by omega))]
    split
    ·exact⟨_,rfl,rfl,Or.inl rfl⟩
    ·exact⟨o,rfl,rfl,b3⟩
   ·rw[if_neg c2];exact⟨o,rfl,rfl,b3⟩
  ·rw[if_neg c1];exact⟨_,rfl,rfl,Or.inl rfl⟩
structure NetOk (n:Network):Prop where
 len:n.Legs.length≤20
 legs:∀x∈n.Legs,LegOk x
 change:0≤n.Change∧n.Change≤240
theorem wo (n:Network) (h:n.tot≤1048576):∃r,cE G.real TE.real n=some r∧eo G.real TE.real n=some r∧(r=true→NetOk n):=by
 have h2:=h
 unfold Network.tot at h2
 obtain⟨o,a1,a2,a3⟩:=Bb n.Legs fun x hx=>by have h3:Leg.tot x≤wD (fun y=>Leg.tot y) n.Legs:=AG (fun y=>Leg.tot y) hx;omega
 obtain⟨p,b1,b2,b3⟩:=Bg n (by omega) n.Off 0 rfl
 unfold cE eo
 rw[show(0:Int)=((0:Nat):Int) from rfl,a1,a2,b1,b2]
 simp only[af,aP,ky,nK,nm,ao,qi,AV]
 rcases a3 with rfl|⟨rfl,a4⟩
 ·exact⟨false,rfl,rfl,fun h=>by cases h⟩
 ·rcases b3 with rfl|rfl
  ·exact⟨false,rfl,rfl,fun h=>by cases h⟩
  ·simp only[kJ]
   by_cases c1:(n.Legs.length:Int)≤20
   ·rw[if_pos c1]
    split
    ·exact⟨_,rfl,rfl,fun h=>⟨by omega,a4,by simpa using h⟩⟩
    ·exact⟨false,rfl,rfl,fun h=>by cases h⟩
   ·rw[if_neg c1];exact⟨false,rfl,rfl,fun h=>by cases h⟩
def netB (n:Network):Bool:=(eo G.real TE.real n).getD false
theorem sz {n:Network} (h:n.tot≤1048576):cE G.real TE.real n=some (netB n):=by
 obtain⟨r,a1,a2,_⟩:=wo n h
 rw[a1];unfold netB;rw[a2];rfl
theorem FN {n:Network} (h:n.tot≤1048576):eo G.real TE.real n=some (netB n):=by
 obtain⟨r,a1,a2,_⟩:=wo n h
 unfold netB;rw[a2];rfl
theorem iM {n:Network} (h:n.tot≤1048576) (hb:netB n=true):NetOk n:=by
 obtain⟨r,a1,a2,a3⟩:=wo n h
 refine a3 ?_
 unfold netB at hb;rw[a2] at hb;exact hb
def lgOf (n:Network) (l:Int):Leg:=n.Legs.getD l.toNat ⟨.empty,.empty,0,0,0,0⟩
theorem d9 {n:Network} {l:Int} (h0:0≤l) (h1:l<n.Legs.length):n.Legs[l.toNat]?=some (lgOf n l):=by
 unfold lgOf
 rw[List.getD_eq_getElem?_getD,List.getElem?_eq_getElem (by omega)]
 rfl
theorem kL {n:Network} {l:Int} (h0:0≤l) (h1:l<n.Legs.length):lgOf n l∈n.Legs:=List.mem_of_getElem? (d9 h0 h1)
end Go.Vs
namespace Go.Vs
open Go.IntWalk
theorem FF (a:Int):G.real.band .i64 a 1=0∨G.real.band .i64 a 1=1:=by
 have h:(BitVec.ofInt 64 a&&& BitVec.ofInt 64 1).toNat≤1:=by
  rw[BitVec.toNat_and]
  exact Nat.le_trans Nat.and_le_right (by decide)
 have e:G.real.band .i64 a 1=(((BitVec.ofInt 64 a&&& BitVec.ofInt 64 1).toNat:Nat):Int):=w64 (n:=(((BitVec.ofInt 64 a&&& BitVec.ofInt 64 1).toNat:Nat):Int)) (by omega) (by omega)
 rw[e]
 omega
theorem B0 (a:Int) (l:List Int):fB G.real TE.real a l=if a∈l then .ret false else .out ():=by
 induction l with
 |nil=>rw[fB];simp
 |cons z l ih=>
  rw[fB,ih]
  simp only[ib,ao]
  by_cases h:z=a
  ·rw[if_pos h,if_pos (by simp[h])]
  ·rw[if_neg h]
   by_cases h2:a∈l
   ·rw[if_pos h2,if_pos (by simp[h2])]
   ·rw[if_neg h2,if_neg (by simp[h2];exact fun e=>h e.symm)]
theorem Du (a:Int) (l:List Int):ej G.real TE.real a l=if a∈l then .ret true else .out ():=by
 induction l with
 |nil=>rw[ej];simp
 |cons z l ih=>
  rw[ej,ih]
  simp only[ib,ao]
  by_cases h:z=a
  ·rw[if_pos h,if_pos (by simp[h])]
  ·rw[if_neg h]
   by_cases h2:a∈l
   ·rw[if_pos h2,if_pos (by simp[h2])]
   ·rw[if_neg h2,if_neg (by simp[h2];exact fun e=>h e.symm)]
theorem tC (n:Network) (h:n.Legs.length≤1048576) (a b:Int):∃r,kT G.real TE.real n a b=some r∧fP G.real TE.real n a b=some r∧(r=true→0≤a∧a<n.Legs.length∧0≤b∧b≤60):=by
 unfold kT fP oZ
 simp only[aP,cP,nm,i5,qi,ky,nK,ao,B0,Du,cw,ib,z9]
 rw[w64 (n:=(n.Legs.length:Int)-1) (by omega) (by omega)]
 by_cases c1:a<0
 ·rw[if_pos c1,if_neg (by omega)];exact⟨false,rfl,rfl,fun h=>by cases h⟩
 ·rw[if_neg c1]
  by_cases c2:(n.Legs.length:Int)≤a
  ·rw[if_pos c2,if_neg (by omega)];exact⟨false,rfl,rfl,fun h=>by cases h⟩
  ·rw[if_neg c2,if_pos (c:=0≤a∧a≤(n.Legs.length:Int)-1) (by omega)]
   by_cases c3:0≤b∧b≤60
   ·have hx:n.Legs[a.toNat]?=some n.Legs[a.toNat]:=List.getElem?_eq_getElem (by omega)
    have hr:0≤b.tmod 7:=Int.tmod_nonneg _ c3.1
    rw[if_pos c3,if_pos c3,aj (by omega),aj (by omega),ax hx,ax hx,aj hr,aj hr]
    rcases FF (G.real.shr .i64 n.Legs[a.toNat].Days (b.tmod 7)) with e|e
    ·rw[e,if_pos rfl,if_neg (by decide)];exact⟨false,rfl,rfl,fun h=>by cases h⟩
    ·rw[e,if_neg (by decide),if_pos rfl]
     by_cases c4:b∈n.Off
     ·rw[if_pos c4,if_pos c4];exact⟨false,rfl,rfl,fun h=>by cases h⟩
     ·rw[if_neg c4,if_neg c4];exact⟨true,rfl,rfl,fun _=>by omega⟩
   ·rw[if_neg c3,if_neg c3];exact⟨false,rfl,rfl,fun h=>by cases h⟩
def runsB (n:Network) (a b:Int):Bool:=(fP G.real TE.real n a b).getD false
theorem vO {n:Network} (h:n.Legs.length≤1048576) (a b:Int):kT G.real TE.real n a b=some (runsB n a b):=by
 obtain⟨r,a1,a2,_⟩:=tC n h a b
 rw[a1];unfold runsB;rw[a2];rfl
theorem wb {n:Network} (h:n.Legs.length≤1048576) (a b:Int):fP G.real TE.real n a b=some (runsB n a b):=by
 obtain⟨r,a1,a2,_⟩:=tC n h a b
 unfold runsB;rw[a2];rfl
theorem cV {n:Network} (h:n.Legs.length≤1048576) {a b:Int} (hb:runsB n a b=true):0≤a∧a<n.Legs.length∧0≤b∧b≤60:=by
 obtain⟨r,a1,a2,a3⟩:=tC n h a b
 refine a3 ?_
 unfold runsB at hb;rw[a2] at hb;exact hb
theorem jM {n:Network} (h:n.tot≤1048576):n.Legs.length≤1048576:=by unfold Network.tot at h;omega
def lA (n:Network) (q:Trip):Bool:=netB n&&runsB n q.Leg q.Day
theorem sZ {n:Network} (h:n.tot≤1048576) (q:Trip):fK G.real TE.real n q=some (lA n q):=by
 unfold fK mr lA
 rw[sz h,vO (jM h)]
 cases netB n<;>rfl
def stN (n:Network) (l d:Int):Int:=d*1440+(lgOf n l).Start
def enN (n:Network) (l d:Int):Int:=stN n l d+(lgOf n l).Takes
theorem ku {n:Network} (hn:NetOk n) {l d:Int} (h0:0≤l) (h1:l<n.Legs.length) (h2:0≤d) (h3:d≤60):d*1440≤stN n l d∧stN n l d≤87839∧stN n l d<enN n l d∧enN n l d≤92159:=by
 have:=hn.legs _ (kL h0 h1)
 have h4:=this.start
 have h5:=this.takes
 unfold enN stN
 omega
theorem pm {n:Network} (hn:NetOk n) {l d:Int} (h0:0≤l) (h1:l<n.Legs.length) (h2:0≤d) (h3:d≤60):gu G.real TE.real n ⟨l,d⟩=some (stN n l d):=by
 have hr:=ku hn h0 h1 h2 h3
 unfold gu
 simp only[cw,bR,mI]
 rw[aj h0,ax (d9 h0 h1),w64 (n:=d*1440) (by omega) (by omega),w64 (by unfold stN at hr;omega) (by unfold stN at hr;omega)]
 rfl
theorem wY {n:Network} (hn:NetOk n) {l d:Int} (h0:0≤l) (h1:l<n.Legs.length) (h2:0≤d) (h3:d≤60):eh G.real TE.real n ⟨l,d⟩=some (stN n l d):=by
 have hr:=ku hn h0 h1 h2 h3
 unfold eh
 simp only[cw,bR,mI]
 rw[aj h0,ax (d9 h0 h1),w64 (n:=d*1440) (by omega) (by omega),w64 (by unfold stN at hr;omega) (by unfold stN at hr;omega)]
 rfl
theorem xJ {n:Network} (hn:NetOk n) {l d:Int} (h0:0≤l) (h1:l<n.Legs.length) (h2:0≤d) (h3:d≤60):iL G.real TE.real n ⟨l,d⟩=some (enN n l d):=by
 have hr:=ku hn h0 h1 h2 h3
 unfold iL
 rw[pm hn h0 h1 h2 h3,af]
 simp only[cw,bR]
 rw[aj h0,ax (d9 h0 h1),w64 (by unfold enN at hr;omega) (by unfold enN at hr;omega)]
 rfl
theorem CM {n:Network} (hn:NetOk n) {l d:Int} (h0:0≤l) (h1:l<n.Legs.length) (h2:0≤d) (h3:d≤60):jz G.real TE.real n ⟨l,d⟩=some (enN n l d):=by
 have hr:=ku hn h0 h1 h2 h3
 unfold jz
 rw[wY hn h0 h1 h2 h3,af]
 simp only[cw,bR]
 rw[aj h0,ax (d9 h0 h1),w64 (by unfold enN at hr;omega) (by unfold enN at hr;omega)]
 rfl
end Go.Vs
namespace Go.Vs
open Go.IntWalk
theorem u9 (w:List ByteArray) (x:ByteArray):G.real.hasS w x=true↔x∈w:=by
 have e:G.real.hasS w x=hasL w x:=rfl
 rw[e]
 unfold hasL
 simp
theorem AF (w:List ByteArray) (x z:ByteArray):z∈G.real.putS w x↔z∈w∨z=x:=by
 have ep:G.real.putS w x=putL w x:=rfl
 rw[ep]
 unfold putL
 split
 ·rename_i h
  exact⟨.inl,fun hh=>hh.elim id (fun e=>e▸h)⟩
 ·simp
theorem we (a b:ByteArray):∀(n k:Nat) (w3 w4:List ByteArray),k+n=2→w4.length+n≤5000000→(∀p,p∈w3↔p∈w4)→w4.Nodup→
 ∃u3 u4,bW G.real TE.real [a,b] n (k:Int) w3 w4=some (u3,u4)∧(∀p,p∈u3↔p∈u4)∧u4.Nodup∧u4.length≤w4.length+n∧∀p,p∈u4↔p∈w4∨p∈[a,b].drop k
 |0,k,w3,w4,hk,_,h,hn=>by
  rw[bW]
  exact⟨w3,w4,rfl,h,hn,by omega,fun p=>by rw[List.drop_of_length_le (by simp;omega)];simp⟩
 |n+1,k,w3,w4,hk,hl,h,hn=>by
  have hkl:k<[a,b].length:=by simp;omega
  have hx:[a,b][k]?=some ([a,b][k]'hkl):=List.getElem?_eq_getElem hkl
  have hd:=List.drop_eq_getElem_cons hkl
  generalize [a,b][k]'hkl=x at hx hd
  rw[bW]
  simp only[cw,Int.toNat_natCast,aP,bR]
  rw[ax hx,w64 (by omega) (by omega),show(k:Int)+1=((k+1:Nat):Int) from by omega]
  cases hb:G.real.hasS w3 x with
  |true=>
   have hm:=(u9 _ _).1 hb
   rw[dK]
   obtain⟨u3,u4,e1,e2,e5,e3,e4⟩:=we a b n (k+1) w3 w4 (by omega) (by omega) h hn
   refine⟨u3,u4,e1,e2,e5,by omega,fun p=>?_⟩
   rw[e4,hd]
   simp only[List.mem_cons]
   constructor
   ·rintro(q|q)
    ·exact .inl q
    ·exact .inr (.inr q)
   ·rintro(q|rfl|q)
    ·exact .inl q
    ·exact .inl ((h _).1 hm)
    ·exact .inr q
  |false=>
   have hm:x∉w3:=fun hh=>by rw[(u9 _ _).2 hh] at hb;cases hb
   rw[mb,aj (by simp only[List.length_cons,List.length_nil];omega)]
   obtain⟨u3,u4,e1,e2,e5,e3,e4⟩:=we a b n (k+1) (G.real.putS w3 x) (w4++[x]) (by omega) (by simp;omega) (fun p=>by
    rw[AF];simp[h p]) (by
    rw[List.nodup_append]
    refine⟨hn,by simp,fun y hy z hz=>?_⟩
    simp only[List.mem_singleton] at hz
    subst hz
    intro e;subst e
    exact hm ((h _).2 hy))
   refine⟨u3,u4,e1,e2,e5,by simp at e3;omega,fun p=>?_⟩
   rw[e4,hd]
   simp only[List.mem_append,List.mem_cons,List.not_mem_nil,or_false]
   constructor
   ·rintro((q|q)|q)
    ·exact .inl q
    ·exact .inr (.inl q)
    ·exact .inr (.inr q)
   ·rintro(q|q|q)
    ·exact .inl (.inl q)
    ·exact .inl (.inr q)
    ·exact .inr q
def p9 (l:List Leg):List ByteArray:=l.flatMap fun x=>[x.From,x.To]
theorem rL (l:List Leg) (p:ByteArray):p∈p9 l↔∃x∈l,p=x.From∨p=x.To:=by
 unfold p9
 simp[List.mem_flatMap]
theorem Ay:∀(l:List Leg) (w1 w2:List ByteArray),w2.length+2*l.length≤4194304→(∀p,p∈w1↔p∈w2)→w2.Nodup→
 ∃u,cI G.real TE.real l w1 w2=some u∧u.Nodup∧u.length≤w2.length+2*l.length∧∀p,p∈u↔p∈w2∨p∈p9 l
 |[],w1,w2,_,_,hn=>by rw[cI];exact⟨w2,rfl,hn,by simp,by simp[p9]⟩
 |z::l,w1,w2,hl,h,hn=>by
  simp only[List.length_cons] at hl
  obtain⟨u3,u4,e1,e2,e5,e3,e4⟩:=we z.From z.To 2 0 w1 w2 rfl (by omega) h hn
  obtain⟨u,f1,f4,f2,f3⟩:=Ay l u3 u4 (by omega) e2 e5
  rw[cI]
  simp only[iu,iy,List.length_cons,List.length_nil,lP]
  rw[aj (by omega),show aW 0 (((0+1+1:Nat)):Int)=2 from rfl,show(0:Int)=((0:Nat):Int) from rfl,e1,af]
  refine⟨u,f1,f4,by omega,fun p=>?_⟩
  rw[f3,e4]
  simp only[p9,List.flatMap_cons,List.mem_append,List.drop_zero,List.mem_cons,List.not_mem_nil,or_false,or_assoc]
def plc (n:Network):List ByteArray:=vJ (p9 n.Legs)
theorem xk {n:Network} (h:n.Legs.length≤1048576):ek G.real TE.real n=some (plc n):=by
 obtain⟨u,e1,e4,e2,e3⟩:=Ay n.Legs [] [] (by simp;omega) (by simp) (by simp)
 simp only[List.length_nil] at e2
 unfold ek
 rw[aP,e1,af]
 unfold hC
 rw[aj (by omega),af,aj (uG u)]
 congr 1
 refine wM (oH e4) fun x=>?_
 rw[vx,e3]
 simp
def bd (p:ByteArray):List ByteArray→Nat
 |[]=>0
 |x::l=>if bLt x p then bd p l+1 else 0
theorem ya (p:ByteArray):∀l,bd p l≤l.length
 |[]=>by simp[bd]
 |x::l=>by
  have:=ya p l
  unfold bd
  split<;>simp<;>omega
theorem sh (p:ByteArray):∀l:List ByteArray,∀z∈l.take (bd p l),bLt z p
 |[],z,h=>by simp at h
 |x::l,z,h=>by
  unfold bd at h
  split at h
  ·rename_i hx
   simp only[List.take_succ_cons,List.mem_cons] at h
   rcases h with rfl|h
   ·exact hx
   ·exact sh p l z h
  ·simp at h
theorem ny (p:ByteArray):∀{l:List ByteArray},l.Pairwise bLt→∀z∈l.drop (bd p l),¬bLt z p
 |[],_,z,h=>by simp at h
 |x::l,hs,z,h=>by
  obtain⟨h1,h2⟩:=List.pairwise_cons.1 hs
  unfold bd at h
  split at h
  ·exact ny p h2 z (by simpa using h)
  ·rename_i hx
   simp only[List.drop_zero,List.mem_cons] at h
   rcases h with rfl|h
   ·exact hx
   ·exact fun hz=>hx (sE (h1 _ h) hz)
def qJ (l:List ByteArray) (p:ByteArray):List ByteArray:=if l[bd p l]?=some p then l else l.take (bd p l)++p::l.drop (bd p l)
theorem AP (l:List ByteArray) (p z:ByteArray):z∈qJ l p↔z∈l∨z=p:=by
 unfold qJ
 split
 ·rename_i h
  exact⟨.inl,fun hh=>hh.elim id (fun e=>e▸List.mem_of_getElem? h)⟩
 ·have hm:z∈l↔z∈l.take (bd p l)∨z∈l.drop (bd p l):=by rw[←List.mem_append,List.take_append_drop]
  rw[List.mem_append,List.mem_cons,hm]
  constructor
  ·rintro(h|h|h)
   ·exact .inl (.inl h)
   ·exact .inr h
   ·exact .inl (.inr h)
  ·rintro((h|h)|h)
   ·exact .inl h
   ·exact .inr (.inr h)
   ·exact .inr (.inl h)
theorem ud {l:List ByteArray} (p:ByteArray) (hs:l.Pairwise bLt):(qJ l p).Pairwise bLt:=by
 unfold qJ
 split
 ·exact hs
 ·rename_i hne
  have hap:l.Pairwise bLt:=hs
  rw[←List.take_append_drop (bd p l) l,List.pairwise_append] at hap
  obtain⟨a1,a2,a3⟩:=hap
  have hd:∀z∈l.drop (bd p l),bLt p z:=fun z hz=>by
   rcases xM p z with h|h|h
   ·exact h
   ·subst h
    exfalso
    cases hdr:l.drop (bd p l) with
    |nil=>rw[hdr] at hz;simp at hz
    |cons y m=>
     have hy:l[bd p l]?=some y:=by
      have:(l.drop (bd p l))[0]?=some y:=by rw[hdr];rfl
      simpa using this
     rw[hdr] at hz
     rcases List.mem_cons.1 hz with e|hz
     ·subst e;exact hne hy
     ·rw[hdr,List.pairwise_cons] at a2
      exact ny p hs y (by rw[hdr];simp) (a2.1 _ hz)
   ·exact absurd h (ny p hs z hz)
  rw[List.pairwise_append]
  refine⟨a1,List.pairwise_cons.2 ⟨hd,a2⟩,fun x hx y hy=>?_⟩
  rcases List.mem_cons.1 hy with rfl|hy
  ·exact sh y l x hx
  ·exact a3 x hx y hy
theorem BF (l:List ByteArray) (p:ByteArray):(qJ l p).length≤l.length+1:=by
 unfold qJ
 split
 ·omega
 ·simp;omega
theorem zR (w:List ByteArray) (x:Leg) (hw:w.length≤4194304):∀(n k:Nat),k+n=w.length→bX G.real TE.real w x n (k:Int)=some ((k+bd x.To (w.drop k):Nat):Int)
 |0,k,h=>by rw[bX,List.drop_of_length_le (by omega)];rfl
 |n+1,k,h=>by
  have hk:k<w.length:=by omega
  rw[bX]
  simp only[cw,Int.toNat_natCast,bR,CL,ao]
  rw[ax (List.getElem?_eq_getElem hk),w64 (by omega) (by omega),show(k:Int)+1=((k+1:Nat):Int) from by omega,zR w x hw n (k+1) (by omega),List.drop_eq_getElem_cons hk,bd]
  split
  ·congr 2;omega
  ·rfl
theorem Bs (w:List ByteArray) (x:Leg) (hw:w.length≤4194304):∀(n k:Nat),k+n=w.length→bY G.real TE.real w x n (k:Int)=some ((k+bd x.From (w.drop k):Nat):Int)
 |0,k,h=>by rw[bY,List.drop_of_length_le (by omega)];rfl
 |n+1,k,h=>by
  have hk:k<w.length:=by omega
  rw[bY]
  simp only[cw,Int.toNat_natCast,bR,CL,ao]
  rw[ax (List.getElem?_eq_getElem hk),w64 (by omega) (by omega),show(k:Int)+1=((k+1:Nat):Int) from by omega,Bs w x hw n (k+1) (by omega),List.drop_eq_getElem_cons hk,bd]
  split
  ·congr 2;omega
  ·rfl
theorem xp {γ:Type} {w:List ByteArray} {p:ByteArray} (hw:w.length≤4194304) {k:List ByteArray→Option γ} {k2:Option γ} (h2:w[bd p w]?=some p→k2=k w):
 (br (decide (((bd p w:Nat):Int)=(w.length:Int)))
  (gd ((0:Int)≤0∧0≤((bd p w:Nat):Int)∧((bd p w:Nat):Int)≤((w.length:Nat):Int))<|
   gd (Int.toNat 0+(Int.toNat ((bd p w:Nat):Int)-Int.toNat 0)≤w.length)<|
   gd ((([]:List ByteArray).length+(List.take (Int.toNat ((bd p w:Nat):Int)-Int.toNat 0) (List.drop (Int.toNat 0) w)).length)*16≤70368744177664)<|
   gd ((([]++(List.take (Int.toNat ((bd p w:Nat):Int)-Int.toNat 0) (List.drop (Int.toNat 0) w))).length+[p].length)*16≤70368744177664)<|
   gd ((0:Int)≤((bd p w:Nat):Int)∧((bd p w:Nat):Int)≤(w.length:Int)∧(w.length:Int)≤((w.length:Nat):Int))<|
   gd (Int.toNat ((bd p w:Nat):Int)+(Int.toNat (w.length:Int)-Int.toNat ((bd p w:Nat):Int))≤w.length)<|
   gd ((([]++(List.take (Int.toNat ((bd p w:Nat):Int)-Int.toNat 0) (List.drop (Int.toNat 0) w))++[p]).length+(List.take (Int.toNat (w.length:Int)-Int.toNat ((bd p w:Nat):Int)) (List.drop (Int.toNat ((bd p w:Nat):Int)) w)).length)*16≤70368744177664)<|
   k ([]++(List.take (Int.toNat ((bd p w:Nat):Int)-Int.toNat 0) (List.drop (Int.toNat 0) w))++[p]++(List.take (Int.toNat (w.length:Int)-Int.toNat ((bd p w:Nat):Int)) (List.drop (Int.toNat ((bd p w:Nat):Int)) w))))
  (gd ((0:Int)≤((bd p w:Nat):Int)∧((bd p w:Nat):Int)<((w.length:Nat):Int))<|
   gt w (Int.toNat ((bd p w:Nat):Int)) fun x3=>
   br (decide (x3=p)) k2
   (gd ((0:Int)≤0∧0≤((bd p w:Nat):Int)∧((bd p w:Nat):Int)≤((w.length:Nat):Int))<|
   gd (Int.toNat 0+(Int.toNat ((bd p w:Nat):Int)-Int.toNat 0)≤w.length)<|
   gd ((([]:List ByteArray).length+(List.take (Int.toNat ((bd p w:Nat):Int)-Int.toNat 0) (List.drop (Int.toNat 0) w)).length)*16≤70368744177664)<|
   gd ((([]++(List.take (Int.toNat ((bd p w:Nat):Int)-Int.toNat 0) (List.drop (Int.toNat 0) w))).length+[p].length)*16≤70368744177664)<|
   gd ((0:Int)≤((bd p w:Nat):Int)∧((bd p w:Nat):Int)≤(w.length:Int)∧(w.length:Int)≤((w.length:Nat):Int))<|
   gd (Int.toNat ((bd p w:Nat):Int)+(Int.toNat (w.length:Int)-Int.toNat ((bd p w:Nat):Int))≤w.length)<|
   gd ((([]++(List.take (Int.toNat ((bd p w:Nat):Int)-Int.toNat 0) (List.drop (Int.toNat 0) w))++[p]).length+(List.take (Int.toNat (w.length:Int)-Int.toNat ((bd p w:Nat):Int)) (List.drop (Int.toNat ((bd p w:Nat):Int)) w)).length)*16≤70368744177664)<|
   k ([]++(List.take (Int.toNat ((bd p w:Nat):Int)-Int.toNat 0) (List.drop (Int.toNat 0) w))++[p]++(List.take (Int.toNat (w.length:Int)-Int.toNat ((bd p w:Nat):Int)) (List.drop (Int.toNat ((bd p w:Nat):Int)) w))))))=k (qJ w p):=by
 have hle:=ya p w
 have hv:[]++(List.take (Int.toNat ((bd p w:Nat):Int)-Int.toNat 0) (List.drop (Int.toNat 0) w))++[p]++(List.take (Int.toNat (w.length:Int)-Int.toNat ((bd p w:Nat):Int)) (List.drop (Int.toNat ((bd p w:Nat):Int)) w))=w.take (bd p w)++p::w.drop (bd p w):=by
  simp only[Int.toNat_natCast,Int.toNat_zero,Nat.sub_zero,List.drop_zero,List.nil_append]
  rw[List.take_of_length_le (l:=List.drop (bd p w) w) (by simp)]
  simp
 have hlt:(List.take (bd p w) w).length≤w.length:=by simp;omega
 by_cases hc:bd p w=w.length
 ·rw[ao,if_pos (by omega)]
  repeat rw[aj (by simp;omega)]
  rw[hv]
  unfold qJ
  rw[if_neg]
  rw[List.getElem?_eq_none (by omega)]
  simp
 ·have hx:w[Int.toNat ((bd p w:Nat):Int)]?=some (w[bd p w]'(by omega)):=by
   rw[Int.toNat_natCast];exact List.getElem?_eq_getElem (by omega)
  rw[ao,if_neg (by omega),aj (by omega),ax hx,ao]
  by_cases he:w[bd p w]'(by omega)=p
  ·have hp:w[bd p w]?=some p:=by rw[List.getElem?_eq_getElem (by omega),he]
   rw[if_pos he,h2 hp]
   unfold qJ
   rw[if_pos hp]
  ·rw[if_neg he]
   repeat rw[aj (by simp;omega)]
   rw[hv]
   unfold qJ
   rw[if_neg]
   rw[List.getElem?_eq_getElem (by omega)]
   simpa using he
def qY (n:Network) (v:Nat):ByteArray:=if v%2=1 then(lgOf n ((v/2:Nat):Int)).To else(lgOf n ((v/2:Nat):Int)).From
theorem AN (n:Network) (hn:n.Legs.length≤1048576):∀(m v:Nat) (w:List ByteArray),v+m=2*n.Legs.length→w.length≤v→w.Pairwise bLt→
 ∃u,aK G.real TE.real n m (v:Int) w=some u∧u.Pairwise bLt∧∀z,z∈u↔z∈w∨∃j,v≤j∧j<2*n.Legs.length∧z=qY n j
 |0,v,w,h,_,hs=>by
  rw[aK]
  refine⟨w,rfl,hs,fun z=>⟨.inl,?_⟩⟩
  rintro(h2|⟨j,h1,h2,_⟩)
  ·exact h2
  ·omega
 |m+1,v,w,h,hl,hs=>by
  have hq:Int.tdiv (v:Int) 2=((v/2:Nat):Int):=by rw[Int.tdiv_eq_ediv_of_nonneg (by omega)];omega
  have hr:Int.tmod (v:Int) 2=((v%2:Nat):Int):=by rw[Int.tmod_eq_emod_of_nonneg (by omega)];omega
  have hlt:v/2<n.Legs.length:=by omega
  have hg:n.Legs[v/2]?=some (lgOf n ((v/2:Nat):Int)):=by
   have:=d9 (n:=n) (l:=((v/2:Nat):Int)) (by omega) (by omega)
   rwa [Int.toNat_natCast] at this
  obtain⟨u,e1,e2,e3⟩:=AN n hn m (v+1) (qJ w (qY n v)) (by omega) (by have:=BF w (qY n v);omega) (ud _ hs)
  refine⟨u,?_,e2,fun z=>?_⟩
  ·rw[←e1,aK]
   simp only[Eo,z9,bR,cw,iu,iy,ib,hq,hr,aP,j5,Do,Dy]
   rw[w64 (n:=((v/2:Nat):Int)) (by omega) (by omega),aj (by omega),Int.toNat_natCast (v/2),ax hg,w64 (n:=(v:Int)+1) (by omega) (by omega),show(v:Int)+1=((v+1:Nat):Int) from by omega]
   have cn:aW 0 (w.length:Int)=w.length:=by unfold aW;omega
   have z2:bX G.real TE.real w (lgOf n ((v/2:Nat):Int)) w.length 0=some ((bd (lgOf n ((v/2:Nat):Int)).To w:Nat):Int):=by simpa using zR w (lgOf n ((v/2:Nat):Int)) (by omega) w.length 0 (by omega)
   have z3:bY G.real TE.real w (lgOf n ((v/2:Nat):Int)) w.length 0=some ((bd (lgOf n ((v/2:Nat):Int)).From w:Nat):Int):=by simpa using Bs w (lgOf n ((v/2:Nat):Int)) (by omega) w.length 0 (by omega)
   rw[aj (c:=(0:Int)≤((v/2:Nat):Int)) (by omega),aj (by omega),cn,z2,z3,af,af]
   by_cases hv:v%2=1
   ·have hp:qY n v=(lgOf n ((v/2:Nat):Int)).To:=by unfold qY;rw[if_pos hv]
    rw[ao,if_pos (by omega)]
    have:=xp (γ:=List ByteArray) (w:=w) (p:=(lgOf n ((v/2:Nat):Int)).To) (by omega) (k:=fun l=>aK G.real TE.real n m ((v+1:Nat):Int) l) (k2:=aK G.real TE.real n m ((v+1:Nat):Int) w) (fun _=>rfl)
    rw[hp]
    exact this
   ·have hp:qY n v=(lgOf n ((v/2:Nat):Int)).From:=by unfold qY;rw[if_neg hv]
    rw[ao,if_neg (by omega)]
    have:=xp (γ:=List ByteArray) (w:=w) (p:=(lgOf n ((v/2:Nat):Int)).From) (by omega) (k:=fun l=>aK G.real TE.real n m ((v+1:Nat):Int) l) (k2:=aK G.real TE.real n m ((v+1:Nat):Int) w) (fun _=>rfl)
    rw[hp,aj (by omega)]
    exact this
  ·rw[e3,AP]
   constructor
   ·rintro((h1|h1)|⟨j,h1,h2,h3⟩)
    ·exact .inl h1
    ·exact .inr ⟨v,by omega,by omega,h1⟩
    ·exact .inr ⟨j,by omega,h2,h3⟩
   ·rintro(h1|⟨j,h1,h2,h3⟩)
    ·exact .inl (.inl h1)
    ·by_cases hj:j=v
     ·subst hj;exact .inl (.inr h3)
     ·exact .inr ⟨j,by omega,h2,h3⟩
theorem A0 {n:Network} (h:n.Legs.length≤1048576):fw G.real TE.real n=some (plc n):=by
 obtain⟨u,e1,e2,e3⟩:=AN n h (2*n.Legs.length) 0 [] (by omega) (by simp) (by simp)
 unfold fw
 simp only[aP,mI,qi]
 have cn:aW 0 (2* (n.Legs.length:Int))=2*n.Legs.length:=by unfold aW;omega
 rw[w64 (by omega) (by omega),aj (by omega),cn,show(0:Int)=((0:Nat):Int) from rfl,e1,af]
 congr 1
 refine wM e2 fun z=>?_
 rw[e3,rL]
 simp only[List.not_mem_nil,false_or]
 constructor
 ·rintro⟨j,_,h2,h3⟩
  have hm:lgOf n ((j/2:Nat):Int)∈n.Legs:=kL (by omega) (by omega)
  unfold qY at h3
  split at h3
  ·exact⟨_,hm,.inr h3⟩
  ·exact⟨_,hm,.inl h3⟩
 ·rintro⟨x,hx,hz⟩
  obtain⟨i,hi,rfl⟩:=List.getElem_of_mem hx
  have hlg:lgOf n ((i:Nat):Int)=n.Legs[i]:=by
   have:=d9 (n:=n) (l:=((i:Nat):Int)) (by omega) (by omega)
   rw[Int.toNat_natCast,List.getElem?_eq_getElem hi] at this
   exact(Option.some.inj this).symm
  rcases hz with hz|hz
  ·refine⟨2*i,by omega,by omega,?_⟩
   unfold qY
   rw[if_neg (by omega),show 2*i/2=i by omega,hlg];exact hz
  ·refine⟨2*i+1,by omega,by omega,?_⟩
   unfold qY
   rw[if_pos (by omega),show(2*i+1)/2=i by omega,hlg];exact hz
theorem c7 (n:Network) (z:ByteArray):z∈plc n↔∃x∈n.Legs,z=x.From∨z=x.To:=by unfold plc;rw[uR,rL]
theorem dT (n:Network):(plc n).length≤2*n.Legs.length:=by
 refine Nat.le_trans (Bi _) ?_
 unfold p9
 induction n.Legs with
 |nil=>simp
 |cons x l ih=>simp only[List.flatMap_cons,List.length_append,List.length_cons,List.length_nil];omega
theorem A4 (s:ByteArray):∀(l:List ByteArray) (v:Int),0≤v→v+l.length≤4194304→bN G.real TE.real s l v=if s∈l then .ret (v+ixN l s) else .out ()
 |[],v,_,_=>by rw[bN];simp
 |z::l,v,h0,h1=>by
  simp only[List.length_cons] at h1
  rw[bN]
  simp only[j5,bR,ao]
  rw[w64 (by omega) (by omega),A4 s l (v+1) (by omega) (by omega)]
  by_cases h:z=s
  ·rw[if_pos h,if_pos (by simp[h])]
   unfold ixN
   rw[if_pos h];simp
  ·rw[if_neg h]
   by_cases hm:s∈l
   ·rw[if_pos hm,if_pos (by simp[hm])]
    congr 1
    conv=>rhs;unfold ixN
    rw[if_neg h];omega
   ·rw[if_neg hm,if_neg (by simp[hm];exact fun e=>h e.symm)]
theorem nt {l:List ByteArray} (h:l.length≤4194304) (s:ByteArray):co G.real TE.real l s=ix l s:=by
 unfold co
 rw[A4 s l 0 (by omega) (by omega),aP]
 unfold ix
 split<;>simp
theorem Bx (s:ByteArray):∀(l:List ByteArray) (v:Int),dh G.real TE.real s l v=bN G.real TE.real s l v
 |[],v=>by rw[dh,bN]
 |z::l,v=>by rw[dh,bN,Bx s l]
theorem tG {l:List ByteArray} (h:l.length≤4194304) (s:ByteArray):dD G.real TE.real l s=ix l s:=by
 rw[←nt h s]
 unfold dD co
 rw[Bx]
end Go.Vs
namespace Go.Vs
open Go.IntWalk
def fdD (p:Int→Bool):Nat→Int→Option Int
 |0,_=>none
 |n+1,v=>if p v=true then some v else fdD p n (v+1)
theorem m8 {p:Int→Bool}:∀{n:Nat} {v d:Int},fdD p n v=some d→p d=true∧v≤d∧d<v+n
 |n+1,v,d,h=>by
  unfold fdD at h
  split at h
  ·rename_i hp;cases h;exact⟨hp,by omega,by omega⟩
  ·obtain⟨h1,h2,h3⟩:=m8 h;exact⟨h1,by omega,by omega⟩
def tbO (l:Int):Option Int→Trip×Bool
 |some d=>(⟨l,d⟩,true)
 |none=>(⟨0,0⟩,false)
def dyO:Option Int→Int
 |some d=>d
 |none=> -1
def pN (n:Network) (l at_:Int) (d:Int):Bool:=runsB n l d&&decide (at_≤stN n l d)
theorem xK {n:Network} (hn:NetOk n) {l:Int} (at_:Int):∀(m:Nat) (v:Int),0≤v→v+m≤1000→eK G.real TE.real n l at_ m v=some (match fdD (pN n l at_) m v with|some d=>.ret (⟨l,d⟩,true)|none=>.out ())
 |0,v,_,_=>by rw[eK,fdD]
 |m+1,v,h0,h1=>by
  have hl:n.Legs.length≤1048576:=by have:=hn.len;omega
  rw[eK,fdD,vO hl]
  simp only[af,bR,nm,ao]
  rw[w64 (by omega) (by omega),xK hn at_ m (v+1) (by omega) (by omega)]
  unfold pN
  cases hr:runsB n l v with
  |false=>rfl
  |true=>
   obtain⟨r1,r2,r3,r4⟩:=cV hl hr
   rw[dK,pm hn r1 r2 r3 r4,af]
   by_cases hc:at_≤stN n l v
   ·rw[if_pos hc];simp[hc]
   ·rw[if_neg hc];simp[hc]
theorem Dc {n:Network} (hn:NetOk n) (l at_:Int):qd G.real TE.real n l at_=some (tbO l (fdD (pN n l at_) 61 0)):=by
 unfold qd
 rw[show cX 0 60=61 from rfl,xK hn at_ 61 0 (by omega) (by omega),af]
 cases fdD (pN n l at_) 61 0<;>rfl
structure Find (fd:Fd) (n:Network) (f:Int→Int→Option Int):Prop where
 call:∀l a,callFd G.real TE.real fd l a=some (tbO l (f l a))
 ok:∀{l a d},f l a=some d→runsB n l d=true∧a≤stN n l d
def fN (n:Network) (l a:Int):Option Int:=fdD (pN n l a) 61 0
theorem nH {n:Network} (hn:NetOk n):Find (.I_nextOf_1 n) n (fN n):=by
 refine⟨fun l a=>?_,fun{l a d} h=>?_⟩
 ·show I_nextOf_1 G.real TE.real l a n=_
  unfold I_nextOf_1
  rw[Dc hn,af]
  rfl
 ·obtain⟨h1,_,_⟩:=m8 h
  unfold pN at h1
  simpa using h1
end Go.Vs
