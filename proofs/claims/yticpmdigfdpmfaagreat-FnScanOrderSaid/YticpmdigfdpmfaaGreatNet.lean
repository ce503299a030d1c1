/- Part of the proofs of this seat's laws: Net. No condition. -/
import Derived.Test.YticpmdigfdpmfaaGreatHa
import Derived.Test.YticpmdigfdpmfaaGreatLaa
import Derived.Test.YticpmdigfdpmfaaGreatLac
import Derived.Test.YticpmdigfdpmfaaGreatLab
set_option linter.unusedVariables false
set_option linter.unusedSimpArgs false
set_option linter.unusedSectionVars false
namespace Go.Vs
open Go.IntWalk
theorem lF (a b c:Int):dW G.real TE.real a b c=decide (b≤a∧a≤c):=by
 unfold dW
 simp only[jQ,dR]
 by_cases h1:b≤a
 ·by_cases h2:a≤c
  ·simp[h1,h2]
  ·simp[h1,h2]
 ·simp[h1]
theorem o6 (a b c:Int):fO G.real TE.real a b c=decide (b≤a∧a≤c):=by
 unfold fO
 simp only[jQ,dR]
 by_cases h1:b≤a
 ·by_cases h2:a≤c
  ·simp[h1,h2]
  ·simp[h1,h2]
 ·simp[h1]
theorem Dl (a:ByteArray) (k:Int):0≤G.real.byte a k∧G.real.byte a k≤255:=by
 have e:G.real.byte a k=((a.data.getD k.toNat 0).toNat:Int):=rfl
 have:=(a.data.getD k.toNat 0).toNat_lt
 rw[e]
 omega
def okB (a:ByteArray):Nat→Nat→Bool
 |0,_=>true
 |n+1,k=>decide (65≤G.real.byte a (k:Int)∧G.real.byte a (k:Int)≤90)&&okB a n (k+1)
theorem tD (a:ByteArray) (ha:a.size≤1048576):∀(n k:Nat),k+n=a.size→dt G.real TE.real a n (k:Int)=if okB a n k=true then .out () else .ret false
 |0,k,_=>by rw[dt];rfl
 |n+1,k,h=>by
  rw[dt,okB]
  simp only[dR,bq,am]
  rw[w64 (by omega) (by omega),show(k:Int)+1=((k+1:Nat):Int) from by omega,tD a ha n (k+1) (by omega)]
  by_cases h1:G.real.byte a (k:Int)<65
  ·rw[if_pos h1,if_neg]
   simp only[Bool.and_eq_true,decide_eq_true_eq];omega
  ·rw[if_neg h1]
   by_cases h2:90<G.real.byte a (k:Int)
   ·rw[if_pos h2,if_neg]
    simp only[Bool.and_eq_true,decide_eq_true_eq];omega
   ·rw[if_neg h2]
    have:decide (65≤G.real.byte a (k:Int)∧G.real.byte a (k:Int)≤90)=true:=by simp only[decide_eq_true_eq];omega
    rw[this,Bool.true_and]
theorem uu (a:ByteArray) (ha:a.size≤1048576):∀(n k:Nat),k+n≤a.size→dn G.real TE.real a n (k:Int)=some (if okB a n k=true then .out () else .ret false)
 |0,k,_=>by rw[dn];rfl
 |n+1,k,h=>by
  have hb:=Dl a (k:Int)
  rw[dn,okB]
  simp only[bq,a9]
  rw[aj (by omega),w64 (n:=G.real.byte a (k:Int)) (by omega) (by omega),o6,am,w64 (by omega) (by omega),show(k:Int)+1=((k+1:Nat):Int) from by omega,uu a ha n (k+1) (by omega)]
  by_cases h1:65≤G.real.byte a (k:Int)∧G.real.byte a (k:Int)≤90
  ·rw[if_pos h1]
   simp[h1]
  ·rw[if_neg h1]
   simp only[h1,decide_false,Bool.false_and,Bool.false_eq_true,if_false]
theorem xM (a:ByteArray) (ha:a.size≤1048576):∃r,iO G.real TE.real a=some r∧iQ G.real TE.real a=some r∧(r=true→a.size=3):=by
 have cn:∀n:Nat,ap 0 (n:Int)=n:=fun n=>by unfold ap;omega
 unfold iO iQ
 simp only[dz,FV,a9,dM,am]
 rw[aj (by omega),cn,show(0:Int)=((0:Nat):Int) from rfl,tD a ha a.size 0 (by omega)]
 have e3:(3:Int)=((3:Nat):Int):=rfl
 by_cases h3:a.size=3
 ·have s3:=uu a ha 3 0 (by omega)
  cases hok:okB a a.size 0 with
  |true=>
   rw[h3] at hok
   rw[if_pos (c:=(true=true)) rfl,if_pos (c:=((a.size:Int)=3)) (by omega),e3,show ap ((0:Nat):Int) ((3:Nat):Int)=3 from rfl,s3,ag,hok]
   exact⟨true,by simp[h3],rfl,fun _=>h3⟩
  |false=>
   rw[h3] at hok
   rw[if_neg (c:=(false=true)) (by simp),if_pos (c:=((a.size:Int)=3)) (by omega),e3,show ap ((0:Nat):Int) ((3:Nat):Int)=3 from rfl,s3,ag,hok]
   exact⟨false,rfl,rfl,fun h=>by cases h⟩
 ·rw[if_neg (c:=((a.size:Int)=3)) (by omega)]
  refine⟨false,?_,rfl,fun h=>by cases h⟩
  split
  ·rw[mL];congr 1;simp only[decide_eq_false_iff_not];omega
  ·rfl
structure LegOk (l:Leg):Prop where
 start:0≤l.Start∧l.Start≤1439
 takes:1≤l.Takes∧l.Takes≤4320
 days:1≤l.Days∧l.Days≤127
 room:0≤l.Room∧l.Room≤1000000
 from3:l.From.size=3
 to3:l.To.size=3
 ne:l.From≠l.To
theorem Fs (l:Leg) (hl:l.tot≤1048576):∃r,ny G.real TE.real l=some r∧nQ G.real TE.real l=some r∧(r=true→LegOk l):=by
 unfold Leg.tot at hl
 obtain⟨r1,a1,a2,a3⟩:=xM l.From (by omega)
 obtain⟨r2,b1,b2,b3⟩:=xM l.To (by omega)
 unfold ny nQ
 rw[a1,a2,b1,b2]
 simp only[ag,a9,lF,o6,am,gn]
 cases r1 with
 |false=>exact⟨false,rfl,rfl,fun h=>by cases h⟩
 |true=>
  cases r2 with
  |false=>exact⟨false,rfl,rfl,fun h=>by cases h⟩
  |true=>
   rw[cu,cu]
   by_cases c0:l.From=l.To
   ·rw[if_pos c0];exact⟨false,rfl,rfl,fun h=>by cases h⟩
   ·rw[if_neg c0]
    by_cases d1:0≤l.Start∧l.Start≤1439
    ·rw[if_pos d1]
     by_cases d2:1≤l.Takes∧l.Takes≤4320
     ·rw[if_pos d2]
      by_cases d3:1≤l.Days∧l.Days≤127
      ·rw[if_pos d3];exact⟨_,rfl,rfl,fun h=>⟨d1,d2,d3,by simpa using h,a3 rfl,b3 rfl,c0⟩⟩
      ·rw[if_neg d3];exact⟨false,rfl,rfl,fun h=>by cases h⟩
     ·rw[if_neg d2];exact⟨false,rfl,rfl,fun h=>by cases h⟩
    ·rw[if_neg d1];exact⟨false,rfl,rfl,fun h=>by cases h⟩
theorem DG:∀(l:List Leg),(∀x∈l,Leg.tot x≤1048576)→∃o,cF G.real TE.real l=some o∧cG G.real TE.real l=some o∧(o=.ret false∨(o=.out ()∧∀x∈l,LegOk x))
 |[],_=>by rw[cF,cG];exact⟨_,rfl,rfl,Or.inr ⟨rfl,by simp⟩⟩
 |z::l,h=>by
  obtain⟨r,a1,a2,a3⟩:=Fs z (h z (by simp))
  obtain⟨o,b1,b2,b3⟩:=DG l fun x hx=>h x (by simp[hx])
  rw[cF,cG,a1,a2,ag,ag]
  cases r with
  |true=>
   rw[cu,cu,b1,b2]
   refine⟨o,rfl,rfl,?_⟩
   rcases b3 with b3|⟨b3,b4⟩
   ·exact Or.inl b3
   ·refine Or.inr ⟨b3,fun x hx=>?_⟩
    rcases List.mem_cons.1 hx with rfl|hx
    ·exact a3 rfl
    ·exact b4 x hx
  |false=>exact⟨_,rfl,rfl,Or.inl rfl⟩
theorem CP (n:Network) (hn:n.Off.length≤1048576):∀(l:List Int) (k:Nat),n.Off.drop k=l→∃o,ca G.real TE.real n l (k:Int)=some o∧bW G.real TE.real n l (k:Int)=some o∧(o=.ret false∨o=.out ())
 |[],k,_=>by rw[ca,bW];exact⟨_,rfl,rfl,Or.inr rfl⟩
 |z::l,k,h=>by
  have hk:k<n.Off.length:=by
   have:=congrArg List.length h
   simp at this;omega
  have ht:n.Off.drop (k+1)=l:=by
   have:=congrArg List.tail h
   simpa using this
  obtain⟨o,b1,b2,b3⟩:=CP n hn l (k+1) ht
  rw[ca,bW]
  simp only[a9,lF,o6,am,dR,gq,bq,jQ,bp]
  rw[w64 (n:=(k:Int)+1) (by omega) (by omega),show(k:Int)+1=((k+1:Nat):Int) from by omega,b1,b2]
  by_cases c1:0≤z∧z≤60
  ·rw[if_pos c1]
   by_cases c2:(0:Int)<k
   ·rw[if_pos c2,w64 (n:=(k:Int)-1) (by omega) (by omega),aj (by omega),show((k:Int)-1).toNat=k-1 from by omega,aq (List.getElem?_eq_getElem (show k-1<n.Off.length by omega))]
    split
    ·exact⟨_,rfl,rfl,Or.inl rfl⟩
    ·exact⟨o,rfl,rfl,b3⟩
   ·rw[if_neg c2];exact⟨o,rfl,rfl,b3⟩
  ·rw[if_neg c1];exact⟨_,rfl,rfl,Or.inl rfl⟩
structure NetOk (n:Network):Prop where
 len:n.Legs.length≤20
 legs:∀x∈n.Legs,LegOk x
 change:0≤n.Change∧n.Change≤240
theorem yg (n:Network) (h:n.tot≤1048576):∃r,dF G.real TE.real n=some r∧da G.real TE.real n=some r∧(r=true→NetOk n):=by
 have h2:=h
 unfold Network.tot at h2
 obtain⟨o,a1,a2,a3⟩:=DG n.Legs fun x hx=>by have h3:Leg.tot x≤yF (fun y=>Leg.tot y) n.Legs:=Da (fun y=>Leg.tot y) hx;omega
 obtain⟨p,b1,b2,b3⟩:=CP n (by omega) n.Off 0 rfl
 unfold dF da
 rw[show(0:Int)=((0:Nat):Int) from rfl,a1,a2,b1,b2]
 simp only[ag,a9,lF,o6,jQ,am,sa,wo]
 rcases a3 with rfl|⟨rfl,a4⟩
 ·exact⟨false,rfl,rfl,fun h=>by cases h⟩
 ·rcases b3 with rfl|rfl
  ·exact⟨false,rfl,rfl,fun h=>by cases h⟩
  ·simp only[mL]
   by_cases c1:(n.Legs.length:Int)≤20
   ·rw[if_pos c1]
    split
    ·exact⟨_,rfl,rfl,fun h=>⟨by omega,a4,by simpa using h⟩⟩
    ·exact⟨false,rfl,rfl,fun h=>by cases h⟩
   ·rw[if_neg c1];exact⟨false,rfl,rfl,fun h=>by cases h⟩
def netB (n:Network):Bool:=(da G.real TE.real n).getD false
theorem xU {n:Network} (h:n.tot≤1048576):dF G.real TE.real n=some (netB n):=by
 obtain⟨r,a1,a2,_⟩:=yg n h
 rw[a1];unfold netB;rw[a2];rfl
theorem xk {n:Network} (h:n.tot≤1048576):da G.real TE.real n=some (netB n):=by
 obtain⟨r,a1,a2,_⟩:=yg n h
 unfold netB;rw[a2];rfl
theorem jH {n:Network} (h:n.tot≤1048576) (hb:netB n=true):NetOk n:=by
 obtain⟨r,a1,a2,a3⟩:=yg n h
 refine a3 ?_
 unfold netB at hb;rw[a2] at hb;exact hb
def eJ (n:Network) (l:Int):Leg:=n.Legs.getD l.toNat ⟨.empty,.empty,0,0,0,0⟩
theorem dP {n:Network} {l:Int} (h0:0≤l) (h1:l<n.Legs.length):n.Legs[l.toNat]?=some (eJ n l):=by
 unfold eJ
 rw[List.getD_eq_getElem?_getD,List.getElem?_eq_getElem (by omega)]
 rfl
theorem rj {n:Network} {l:Int} (h0:0≤l) (h1:l<n.Legs.length):eJ n l∈n.Legs:=List.mem_of_getElem? (dP h0 h1)
end Go.Vs
namespace Go.Vs
open Go.IntWalk
theorem Gq (a:Int):G.real.band .i64 a 1=0∨G.real.band .i64 a 1=1:=by
 have h:(BitVec.ofInt 64 a&&& BitVec.ofInt 64 1).toNat≤1:=by
  rw[BitVec.toNat_and]
  exact Nat.le_trans Nat.and_le_right (by decide)
 have e:G.real.band .i64 a 1=(((BitVec.ofInt 64 a&&& BitVec.ofInt 64 1).toNat:Nat):Int):=w64 (n:=(((BitVec.ofInt 64 a&&& BitVec.ofInt 64 1).toNat:Nat):Int)) (by omega) (by omega)
 rw[e]
 omega
theorem DU (a:Int) (l:List Int):gc G.real TE.real a l=if a∈l then .ret false else .out ():=by
 induction l with
 |nil=>rw[gc];simp
 |cons z l ih=>
  rw[gc,ih]
  simp only[dM,am]
  by_cases h:z=a
  ·rw[if_pos h,if_pos (by simp[h])]
  ·rw[if_neg h]
   by_cases h2:a∈l
   ·rw[if_pos h2,if_pos (by simp[h2])]
   ·rw[if_neg h2,if_neg (by simp[h2];exact fun e=>h e.symm)]
theorem EX (a:Int) (l:List Int):eM G.real TE.real a l=if a∈l then .ret true else .out ():=by
 induction l with
 |nil=>rw[eM];simp
 |cons z l ih=>
  rw[eM,ih]
  simp only[dM,am]
  by_cases h:z=a
  ·rw[if_pos h,if_pos (by simp[h])]
  ·rw[if_neg h]
   by_cases h2:a∈l
   ·rw[if_pos h2,if_pos (by simp[h2])]
   ·rw[if_neg h2,if_neg (by simp[h2];exact fun e=>h e.symm)]
theorem vr (n:Network) (h:n.Legs.length≤1048576) (a b:Int):∃r,lK G.real TE.real n a b=some r∧ig G.real TE.real n a b=some r∧(r=true→0≤a∧a<n.Legs.length∧0≤b∧b≤60):=by
 unfold lK ig qD
 simp only[a9,dR,jQ,gq,sa,lF,o6,am,DU,EX,bp,dM,Cr]
 rw[w64 (n:=(n.Legs.length:Int)-1) (by omega) (by omega)]
 by_cases c1:a<0
 ·rw[if_pos c1,if_neg (by omega)];exact⟨false,rfl,rfl,fun h=>by cases h⟩
 ·rw[if_neg c1]
  by_cases c2:(n.Legs.length:Int)≤a
  ·rw[if_pos c2,if_neg (by omega)];exact⟨false,rfl,rfl,fun h=>by cases h⟩
  ·rw[if_neg c2,if_pos (c:=0≤a∧a≤(n.Legs.length:Int)-1) (by omega)]
   by_cases c3:0≤b∧b≤60
   ·have hx:n.Legs[a.toNat]?=some n.Legs[a.toNat]:=List.getElem?_eq_getElem (by omega)
    have hr:0≤b.tmod 7:=Int.tmod_nonneg _ c3.1
    rw[if_pos c3,if_pos c3,aj (by omega),aj (by omega),aq hx,aq hx,aj hr,aj hr]
    rcases Gq (G.real.shr .i64 n.Legs[a.toNat].Days (b.tmod 7)) with e|e
    ·rw[e,if_pos rfl,if_neg (by decide)];exact⟨false,rfl,rfl,fun h=>by cases h⟩
    ·rw[e,if_neg (by decide),if_pos rfl]
     by_cases c4:b∈n.Off
     ·rw[if_pos c4,if_pos c4];exact⟨false,rfl,rfl,fun h=>by cases h⟩
     ·rw[if_neg c4,if_neg c4];exact⟨true,rfl,rfl,fun _=>by omega⟩
   ·rw[if_neg c3,if_neg c3];exact⟨false,rfl,rfl,fun h=>by cases h⟩
def runsB (n:Network) (a b:Int):Bool:=(ig G.real TE.real n a b).getD false
theorem Cp {n:Network} (h:n.Legs.length≤1048576) (a b:Int):lK G.real TE.real n a b=some (runsB n a b):=by
 obtain⟨r,a1,a2,_⟩:=vr n h a b
 rw[a1];unfold runsB;rw[a2];rfl
theorem yc {n:Network} (h:n.Legs.length≤1048576) (a b:Int):ig G.real TE.real n a b=some (runsB n a b):=by
 obtain⟨r,a1,a2,_⟩:=vr n h a b
 unfold runsB;rw[a2];rfl
theorem dU {n:Network} (h:n.Legs.length≤1048576) {a b:Int} (hb:runsB n a b=true):0≤a∧a<n.Legs.length∧0≤b∧b≤60:=by
 obtain⟨r,a1,a2,a3⟩:=vr n h a b
 refine a3 ?_
 unfold runsB at hb;rw[a2] at hb;exact hb
theorem gw {n:Network} (h:n.tot≤1048576):n.Legs.length≤1048576:=by unfold Network.tot at h;omega
def jA (n:Network) (q:Trip):Bool:=netB n&&runsB n q.Leg q.Day
theorem E3 {n:Network} (h:n.tot≤1048576) (q:Trip):iT G.real TE.real n q=some (jA n q):=by
 unfold iT nv jA
 rw[xU h,Cp (gw h)]
 cases netB n<;>rfl
theorem vI {n:Network} (h:n.tot≤1048576) (q:Trip):fC G.real TE.real n q=some (jA n q):=by
 unfold fC oH jA
 rw[xk h,yc (gw h)]
 cases netB n<;>rfl
def stN (n:Network) (l d:Int):Int:=d*1440+(eJ n l).Start
def enN (n:Network) (l d:Int):Int:=stN n l d+(eJ n l).Takes
theorem oN {n:Network} (hn:NetOk n) {l d:Int} (h0:0≤l) (h1:l<n.Legs.length) (h2:0≤d) (h3:d≤60):d*1440≤stN n l d∧stN n l d≤87839∧stN n l d<enN n l d∧enN n l d≤92159:=by
 have:=hn.legs _ (rj h0 h1)
 have h4:=this.start
 have h5:=this.takes
 unfold enN stN
 omega
theorem nA {n:Network} (hn:NetOk n) {l d:Int} (h0:0≤l) (h1:l<n.Legs.length) (h2:0≤d) (h3:d≤60):fA G.real TE.real n ⟨l,d⟩=some (stN n l d):=by
 have hr:=oN hn h0 h1 h2 h3
 unfold fA
 simp only[bp,bq,nt]
 rw[aj h0,aq (dP h0 h1),w64 (n:=d*1440) (by omega) (by omega),w64 (by unfold stN at hr;omega) (by unfold stN at hr;omega)]
 rfl
theorem mg {n:Network} (hn:NetOk n) {l d:Int} (h0:0≤l) (h1:l<n.Legs.length) (h2:0≤d) (h3:d≤60):cM G.real TE.real n ⟨l,d⟩=some (stN n l d):=by
 have hr:=oN hn h0 h1 h2 h3
 unfold cM
 simp only[bp,bq,nt]
 rw[aj h0,aq (dP h0 h1),w64 (n:=d*1440) (by omega) (by omega),w64 (by unfold stN at hr;omega) (by unfold stN at hr;omega)]
 rfl
theorem Aa {n:Network} (hn:NetOk n) {l d:Int} (h0:0≤l) (h1:l<n.Legs.length) (h2:0≤d) (h3:d≤60):jM G.real TE.real n ⟨l,d⟩=some (enN n l d):=by
 have hr:=oN hn h0 h1 h2 h3
 unfold jM
 rw[nA hn h0 h1 h2 h3,ag]
 simp only[bp,bq]
 rw[aj h0,aq (dP h0 h1),w64 (by unfold enN at hr;omega) (by unfold enN at hr;omega)]
 rfl
theorem uc {n:Network} (hn:NetOk n) {l d:Int} (h0:0≤l) (h1:l<n.Legs.length) (h2:0≤d) (h3:d≤60):eC G.real TE.real n ⟨l,d⟩=some (enN n l d):=by
 have hr:=oN hn h0 h1 h2 h3
 unfold eC
 rw[mg hn h0 h1 h2 h3,ag]
 simp only[bp,bq]
 rw[aj h0,aq (dP h0 h1),w64 (by unfold enN at hr;omega) (by unfold enN at hr;omega)]
 rfl
end Go.Vs
namespace Go.Vs
open Go.IntWalk
theorem wz (w:List ByteArray) (x:ByteArray):G.real.hasS w x=true↔x∈w:=by
 have e:G.real.hasS w x=hasL w x:=rfl
 rw[e]
 unfold hasL
 simp
theorem Cw (w:List ByteArray) (x z:ByteArray):z∈G.real.putS w x↔z∈w∨z=x:=by
 have ep:G.real.putS w x=putL w x:=rfl
 rw[ep]
 unfold putL
 split
 ·rename_i h
  exact⟨.inl,fun hh=>hh.elim id (fun e=>e▸h)⟩
 ·simp
theorem yU (a b:ByteArray):∀(n k:Nat) (w3 w4:List ByteArray),k+n=2→w4.length+n≤5000000→(∀p,p∈w3↔p∈w4)→w4.Nodup→
 ∃u3 u4,cD G.real TE.real [a,b] n (k:Int) w3 w4=some (u3,u4)∧(∀p,p∈u3↔p∈u4)∧u4.Nodup∧u4.length≤w4.length+n∧∀p,p∈u4↔p∈w4∨p∈[a,b].drop k
 |0,k,w3,w4,hk,_,h,hn=>by
  rw[cD]
  exact⟨w3,w4,rfl,h,hn,by omega,fun p=>by rw[List.drop_of_length_le (by simp;omega)];simp⟩
 |n+1,k,w3,w4,hk,hl,h,hn=>by
  have hkl:k<[a,b].length:=by simp;omega
  have hx:[a,b][k]?=some ([a,b][k]'hkl):=List.getElem?_eq_getElem hkl
  have hd:=List.drop_eq_getElem_cons hkl
  generalize [a,b][k]'hkl=x at hx hd
  rw[cD]
  simp only[bp,Int.toNat_natCast,a9,bq]
  rw[aq hx,w64 (by omega) (by omega),show(k:Int)+1=((k+1:Nat):Int) from by omega]
  cases hb:G.real.hasS w3 x with
  |true=>
   have hm:=(wz _ _).1 hb
   rw[cu]
   obtain⟨u3,u4,e1,e2,e5,e3,e4⟩:=yU a b n (k+1) w3 w4 (by omega) (by omega) h hn
   refine⟨u3,u4,e1,e2,e5,by omega,fun p=>?_⟩
   rw[e4,hd]
   simp only[List.mem_cons]
   constructor
   ·rintro(q|q)
    ·exact .inl q
    ·exact .inr (.inr q)
   ·rintro(q|rfl|q)
    ·exact .inl q
    ·exact .inl ((h _).1 hm)
    ·exact .inr q
  |false=>
   have hm:x∉w3:=fun hh=>by rw[(wz _ _).2 hh] at hb;cases hb
   rw[qk,aj (by simp only[List.length_cons,List.length_nil];omega)]
   obtain⟨u3,u4,e1,e2,e5,e3,e4⟩:=yU a b n (k+1) (G.real.putS w3 x) (w4++[x]) (by omega) (by simp;omega) (fun p=>by
    rw[Cw];simp[h p]) (by
    rw[List.nodup_append]
    refine⟨hn,by simp,fun y hy z hz=>?_⟩
    simp only[List.mem_singleton] at hz
    subst hz
    intro e;subst e
    exact hm ((h _).2 hy))
   refine⟨u3,u4,e1,e2,e5,by simp at e3;omega,fun p=>?_⟩
   rw[e4,hd]
   simp only[List.mem_append,List.mem_cons,List.not_mem_nil,or_false]
   constructor
   ·rintro((q|q)|q)
    ·exact .inl q
    ·exact .inr (.inl q)
    ·exact .inr (.inr q)
   ·rintro(q|q|q)
    ·exact .inl (.inl q)
    ·exact .inl (.inr q)
    ·exact .inr q
def re (l:List Leg):List ByteArray:=l.flatMap fun x=>[x.From,x.To]
theorem tg (l:List Leg) (p:ByteArray):p∈re l↔∃x∈l,p=x.From∨p=x.To:=by
 unfold re
 simp[List.mem_flatMap]
theorem CZ:∀(l:List Leg) (w1 w2:List ByteArray),w2.length+2*l.length≤4194304→(∀p,p∈w1↔p∈w2)→w2.Nodup→
 ∃u,c9 G.real TE.real l w1 w2=some u∧u.Nodup∧u.length≤w2.length+2*l.length∧∀p,p∈u↔p∈w2∨p∈re l
 |[],w1,w2,_,_,hn=>by rw[c9];exact⟨w2,rfl,hn,by simp,by simp[re]⟩
 |z::l,w1,w2,hl,h,hn=>by
  simp only[List.length_cons] at hl
  obtain⟨u3,u4,e1,e2,e5,e3,e4⟩:=yU z.From z.To 2 0 w1 w2 rfl (by omega) h hn
  obtain⟨u,f1,f4,f2,f3⟩:=CZ l u3 u4 (by omega) e2 e5
  rw[c9]
  simp only[dz,iI,List.length_cons,List.length_nil,lP]
  rw[aj (by omega),show ap 0 (((0+1+1:Nat)):Int)=2 from rfl,show(0:Int)=((0:Nat):Int) from rfl,e1,ag]
  refine⟨u,f1,f4,by omega,fun p=>?_⟩
  rw[f3,e4]
  simp only[re,List.flatMap_cons,List.mem_append,List.drop_zero,List.mem_cons,List.not_mem_nil,or_false,or_assoc]
def plc (n:Network):List ByteArray:=yf (re n.Legs)
theorem zw {n:Network} (h:n.Legs.length≤1048576):eo G.real TE.real n=some (plc n):=by
 obtain⟨u,e1,e4,e2,e3⟩:=CZ n.Legs [] [] (by simp;omega) (by simp) (by simp)
 simp only[List.length_nil] at e2
 unfold eo
 rw[a9,e1,ag]
 unfold i6
 rw[aj (by omega),ag,aj (wT u)]
 congr 1
 refine zp (p9 e4) fun x=>?_
 rw[vR,e3]
 simp
def bw (p:ByteArray):List ByteArray→Nat
 |[]=>0
 |x::l=>if bLt x p then bw p l+1 else 0
theorem Ao (p:ByteArray):∀l,bw p l≤l.length
 |[]=>by simp[bw]
 |x::l=>by
  have:=Ao p l
  unfold bw
  split<;>simp<;>omega
theorem uh (p:ByteArray):∀l:List ByteArray,∀z∈l.take (bw p l),bLt z p
 |[],z,h=>by simp at h
 |x::l,z,h=>by
  unfold bw at h
  split at h
  ·rename_i hx
   simp only[List.take_succ_cons,List.mem_cons] at h
   rcases h with rfl|h
   ·exact hx
   ·exact uh p l z h
  ·simp at h
theorem o9 (p:ByteArray):∀{l:List ByteArray},l.Pairwise bLt→∀z∈l.drop (bw p l),¬bLt z p
 |[],_,z,h=>by simp at h
 |x::l,hs,z,h=>by
  obtain⟨h1,h2⟩:=List.pairwise_cons.1 hs
  unfold bw at h
  split at h
  ·exact o9 p h2 z (by simpa using h)
  ·rename_i hx
   simp only[List.drop_zero,List.mem_cons] at h
   rcases h with rfl|h
   ·exact hx
   ·exact fun hz=>hx (tB (h1 _ h) hz)
def rb (l:List ByteArray) (p:ByteArray):List ByteArray:=if l[bw p l]?=some p then l else l.take (bw p l)++p::l.drop (bw p l)
theorem DI (l:List ByteArray) (p z:ByteArray):z∈rb l p↔z∈l∨z=p:=by
 unfold rb
 split
 ·rename_i h
  exact⟨.inl,fun hh=>hh.elim id (fun e=>e▸List.mem_of_getElem? h)⟩
 ·have hm:z∈l↔z∈l.take (bw p l)∨z∈l.drop (bw p l):=by rw[←List.mem_append,List.take_append_drop]
  rw[List.mem_append,List.mem_cons,hm]
  constructor
  ·rintro(h|h|h)
   ·exact .inl (.inl h)
   ·exact .inr h
   ·exact .inl (.inr h)
  ·rintro((h|h)|h)
   ·exact .inl h
   ·exact .inr (.inr h)
   ·exact .inr (.inl h)
theorem xp {l:List ByteArray} (p:ByteArray) (hs:l.Pairwise bLt):(rb l p).Pairwise bLt:=by
 unfold rb
 split
 ·exact hs
 ·rename_i hne
  have hap:l.Pairwise bLt:=hs
  rw[←List.take_append_drop (bw p l) l,List.pairwise_append] at hap
  obtain⟨a1,a2,a3⟩:=hap
  have hd:∀z∈l.drop (bw p l),bLt p z:=fun z hz=>by
   rcases zi p z with h|h|h
   ·exact h
   ·subst h
    exfalso
    cases hdr:l.drop (bw p l) with
    |nil=>rw[hdr] at hz;simp at hz
    |cons y m=>
     have hy:l[bw p l]?=some y:=by
      have:(l.drop (bw p l))[0]?=some y:=by rw[hdr];rfl
      simpa using this
     rw[hdr] at hz
     rcases List.mem_cons.1 hz with e|hz
     ·subst e;exact hne hy
     ·rw[hdr,List.pairwise_cons] at a2
      exact o9 p hs y (by rw[hdr];simp) (a2.1 _ hz)
   ·exact absurd h (o9 p hs z hz)
  rw[List.pairwise_append]
  refine⟨a1,List.pairwise_cons.2 ⟨hd,a2⟩,fun x hx y hy=>?_⟩
  rcases List.mem_cons.1 hy with rfl|hy
  ·exact uh y l x hx
  ·exact a3 x hx y hy
theorem CN (l:List ByteArray) (p:ByteArray):(rb l p).length≤l.length+1:=by
 unfold rb
 split
 ·omega
 ·simp;omega
theorem C9 (w:List ByteArray) (x:Leg) (hw:w.length≤4194304):∀(n k:Nat),k+n=w.length→cC G.real TE.real w x n (k:Int)=some ((k+bw x.To (w.drop k):Nat):Int)
 |0,k,h=>by rw[cC,List.drop_of_length_le (by omega)];rfl
 |n+1,k,h=>by
  have hk:k<w.length:=by omega
  rw[cC]
  simp only[bp,Int.toNat_natCast,bq,EN,am]
  rw[aq (List.getElem?_eq_getElem hk),w64 (by omega) (by omega),show(k:Int)+1=((k+1:Nat):Int) from by omega,C9 w x hw n (k+1) (by omega),List.drop_eq_getElem_cons hk,bw]
  split
  ·congr 2;omega
  ·rfl
theorem CR (w:List ByteArray) (x:Leg) (hw:w.length≤4194304):∀(n k:Nat),k+n=w.length→cA G.real TE.real w x n (k:Int)=some ((k+bw x.From (w.drop k):Nat):Int)
 |0,k,h=>by rw[cA,List.drop_of_length_le (by omega)];rfl
 |n+1,k,h=>by
  have hk:k<w.length:=by omega
  rw[cA]
  simp only[bp,Int.toNat_natCast,bq,EN,am]
  rw[aq (List.getElem?_eq_getElem hk),w64 (by omega) (by omega),show(k:Int)+1=((k+1:Nat):Int) from by omega,CR w x hw n (k+1) (by omega),List.drop_eq_getElem_cons hk,bw]
  split
  ·congr 2;omega
  ·rfl
theorem zD {γ:Type} {w:List ByteArray} {p:ByteArray} (hw:w.length≤4194304) {k:List ByteArray→Option γ} {k2:Option γ} (h2:w[bw p w]?=some p→k2=k w):
 (br (decide (((bw p w:Nat):Int)=(w.length:Int)))
  (gd ((0:Int)≤0∧0≤((bw p w:Nat):Int)∧((bw p w:Nat):Int)≤((w.length:Nat):Int))<|
   gd (Int.toNat 0+(Int.toNat ((bw p w:Nat):Int)-Int.toNat 0)≤w.length)<|
   gd ((([]:List ByteArray).length+(List.take (Int.toNat ((bw p w:Nat):Int)-Int.toNat 0) (List.drop (Int.toNat 0) w)).length)*16≤70368744177664)<|
   gd ((([]++(List.take (Int.toNat ((bw p w:Nat):Int)-Int.toNat 0) (List.drop (Int.toNat 0) w))).length+[p].length)*16≤70368744177664)<|
   gd ((0:Int)≤((bw p w:Nat):Int)∧((bw p w:Nat):Int)≤(w.length:Int)∧(w.length:Int)≤((w.length:Nat):Int))<|
   gd (Int.toNat ((bw p w:Nat):Int)+(Int.toNat (w.length:Int)-Int.toNat ((bw p w:Nat):Int))≤w.length)<|
   gd ((([]++(List.take (Int.toNat ((bw p w:Nat):Int)-Int.toNat 0) (List.drop (Int.toNat 0) w))++[p]).length+(List.take (Int.toNat (w.length:Int)-Int.toNat ((bw p w:Nat):Int)) (List.drop (Int.toNat ((bw p w:Nat):Int)) w)).length)*16≤70368744177664)<|
   k ([]++(List.take (Int.toNat ((bw p w:Nat):Int)-Int.toNat 0) (List.drop (Int.toNat 0) w))++[p]++(List.take (Int.toNat (w.length:Int)-Int.toNat ((bw p w:Nat):Int)) (List.drop (Int.toNat ((bw p w:Nat):Int)) w))))
  (gd ((0:Int)≤((bw p w:Nat):Int)∧((bw p w:Nat):Int)<((w.length:Nat):Int))<|
   gt w (Int.toNat ((bw p w:Nat):Int)) fun x3=>
   br (decide (x3=p)) k2
   (gd ((0:Int)≤0∧0≤((bw p w:Nat):Int)∧((bw p w:Nat):Int)≤((w.length:Nat):Int))<|
   gd (Int.toNat 0+(Int.toNat ((bw p w:Nat):Int)-Int.toNat 0)≤w.length)<|
   gd ((([]:List ByteArray).length+(List.take (Int.toNat ((bw p w:Nat):Int)-Int.toNat 0) (List.drop (Int.toNat 0) w)).length)*16≤70368744177664)<|
   gd ((([]++(List.take (Int.toNat ((bw p w:Nat):Int)-Int.toNat 0) (List.drop (Int.toNat 0) w))).length+[p].length)*16≤70368744177664)<|
   gd ((0:Int)≤((bw p w:Nat):Int)∧((bw p w:Nat):Int)≤(w.length:Int)∧(w.length:Int)≤((w.length:Nat):Int))<|
   gd (Int.toNat ((bw p w:Nat):Int)+(Int.toNat (w.length:Int)-Int.toNat ((bw p w:Nat):Int))≤w.length)<|
   gd ((([]++(List.take (Int.toNat ((bw p w:Nat):Int)-Int.toNat 0) (List.drop (Int.toNat 0) w))++[p]).length+(List.take (Int.toNat (w.length:Int)-Int.toNat ((bw p w:Nat):Int)) (List.drop (Int.toNat ((bw p w:Nat):Int)) w)).length)*16≤70368744177664)<|
   k ([]++(List.take (Int.toNat ((bw p w:Nat):Int)-Int.toNat 0) (List.drop (Int.toNat 0) w))++[p]++(List.take (Int.toNat (w.length:Int)-Int.toNat ((bw p w:Nat):Int)) (List.drop (Int.toNat ((bw p w:Nat):Int)) w))))))=k (rb w p):=by
 have hle:=Ao p w
 have hv:[]++(List.take (Int.toNat ((bw p w:Nat):Int)-Int.toNat 0) (List.drop (Int.toNat 0) w))++[p]++(List.take (Int.toNat (w.length:Int)-Int.toNat ((bw p w:Nat):Int)) (List.drop (Int.toNat ((bw p w:Nat):Int)) w))=w.take (bw p w)++p::w.drop (bw p w):=by
  simp only[Int.toNat_natCast,Int.toNat_zero,Nat.sub_zero,List.drop_zero,List.nil_append]
  rw[List.take_of_length_le (l:=List.drop (bw p w) w) (by simp)]
  simp
 have hlt:(List.take (bw p w) w).length≤w.length:=by simp;omega
 by_cases hc:bw p w=w.length
 ·rw[am,if_pos (by omega)]
  repeat rw[aj (by simp;omega)]
  rw[hv]
  unfold rb
  rw[if_neg]
  rw[List.getElem?_eq_none (by omega)]
  simp
 ·have hx:w[Int.toNat ((bw p w:Nat):Int)]?=some (w[bw p w]'(by omega)):=by
   rw[Int.toNat_natCast];exact List.getElem?_eq_getElem (by omega)
  rw[am,if_neg (by omega),aj (by omega),aq hx,am]
  by_cases he:w[bw p w]'(by omega)=p
  ·have hp:w[bw p w]?=some p:=by rw[List.getElem?_eq_getElem (by omega),he]
   rw[if_pos he,h2 hp]
   unfold rb
   rw[if_pos hp]
  ·rw[if_neg he]
   repeat rw[aj (by simp;omega)]
   rw[hv]
   unfold rb
   rw[if_neg]
   rw[List.getElem?_eq_getElem (by omega)]
   simpa using he
def sU (n:Network) (v:Nat):ByteArray:=if v%2=1 then(eJ n ((v/2:Nat):Int)).To else(eJ n ((v/2:Nat):Int)).From
theorem Dx (n:Network) (hn:n.Legs.length≤1048576):∀(m v:Nat) (w:List ByteArray),v+m=2*n.Legs.length→w.length≤v→w.Pairwise bLt→
 ∃u,aP G.real TE.real n m (v:Int) w=some u∧u.Pairwise bLt∧∀z,z∈u↔z∈w∨∃j,v≤j∧j<2*n.Legs.length∧z=sU n j
 |0,v,w,h,_,hs=>by
  rw[aP]
  refine⟨w,rfl,hs,fun z=>⟨.inl,?_⟩⟩
  rintro(h2|⟨j,h1,h2,_⟩)
  ·exact h2
  ·omega
 |m+1,v,w,h,hl,hs=>by
  have hq:Int.tdiv (v:Int) 2=((v/2:Nat):Int):=by rw[Int.tdiv_eq_ediv_of_nonneg (by omega)];omega
  have hr:Int.tmod (v:Int) 2=((v%2:Nat):Int):=by rw[Int.tmod_eq_emod_of_nonneg (by omega)];omega
  have hlt:v/2<n.Legs.length:=by omega
  have hg:n.Legs[v/2]?=some (eJ n ((v/2:Nat):Int)):=by
   have:=dP (n:=n) (l:=((v/2:Nat):Int)) (by omega) (by omega)
   rwa [Int.toNat_natCast] at this
  obtain⟨u,e1,e2,e3⟩:=Dx n hn m (v+1) (rb w (sU n v)) (by omega) (by have:=CN w (sU n v);omega) (xp _ hs)
  refine⟨u,?_,e2,fun z=>?_⟩
  ·rw[←e1,aP]
   simp only[He,Cr,bq,bp,dz,iI,dM,hq,hr,a9,gn,za,Fv]
   rw[w64 (n:=((v/2:Nat):Int)) (by omega) (by omega),aj (by omega),Int.toNat_natCast (v/2),aq hg,w64 (n:=(v:Int)+1) (by omega) (by omega),show(v:Int)+1=((v+1:Nat):Int) from by omega]
   have cn:ap 0 (w.length:Int)=w.length:=by unfold ap;omega
   have z2:cC G.real TE.real w (eJ n ((v/2:Nat):Int)) w.length 0=some ((bw (eJ n ((v/2:Nat):Int)).To w:Nat):Int):=by simpa using C9 w (eJ n ((v/2:Nat):Int)) (by omega) w.length 0 (by omega)
   have z3:cA G.real TE.real w (eJ n ((v/2:Nat):Int)) w.length 0=some ((bw (eJ n ((v/2:Nat):Int)).From w:Nat):Int):=by simpa using CR w (eJ n ((v/2:Nat):Int)) (by omega) w.length 0 (by omega)
   rw[aj (c:=(0:Int)≤((v/2:Nat):Int)) (by omega),aj (by omega),cn,z2,z3,ag,ag]
   by_cases hv:v%2=1
   ·have hp:sU n v=(eJ n ((v/2:Nat):Int)).To:=by unfold sU;rw[if_pos hv]
    rw[am,if_pos (by omega)]
    have:=zD (γ:=List ByteArray) (w:=w) (p:=(eJ n ((v/2:Nat):Int)).To) (by omega) (k:=fun l=>aP G.real TE.real n m ((v+1:Nat):Int) l) (k2:=aP G.real TE.real n m ((v+1:Nat):Int) w) (fun _=>rfl)
    rw[hp]
    exact this
   ·have hp:sU n v=(eJ n ((v/2:Nat):Int)).From:=by unfold sU;rw[if_neg hv]
    rw[am,if_neg (by omega)]
    have:=zD (γ:=List ByteArray) (w:=w) (p:=(eJ n ((v/2:Nat):Int)).From) (by omega) (k:=fun l=>aP G.real TE.real n m ((v+1:Nat):Int) l) (k2:=aP G.real TE.real n m ((v+1:Nat):Int) w) (fun _=>rfl)
    rw[hp,aj (by omega)]
    exact this
  ·rw[e3,DI]
   constructor
   ·rintro((h1|h1)|⟨j,h1,h2,h3⟩)
    ·exact .inl h1
    ·exact .inr ⟨v,by omega,by omega,h1⟩
    ·exact .inr ⟨j,by omega,h2,h3⟩
   ·rintro(h1|⟨j,h1,h2,h3⟩)
    ·exact .inl (.inl h1)
    ·by_cases hj:j=v
     ·subst hj;exact .inl (.inr h3)
     ·exact .inr ⟨j,by omega,h2,h3⟩
theorem tc {n:Network} (h:n.Legs.length≤1048576):dO G.real TE.real n=some (plc n):=by
 obtain⟨u,e1,e2,e3⟩:=Dx n h (2*n.Legs.length) 0 [] (by omega) (by simp) (by simp)
 unfold dO
 simp only[a9,nt,sa]
 have cn:ap 0 (2* (n.Legs.length:Int))=2*n.Legs.length:=by unfold ap;omega
 rw[w64 (by omega) (by omega),aj (by omega),cn,show(0:Int)=((0:Nat):Int) from rfl,e1,ag]
 congr 1
 refine zp e2 fun z=>?_
 rw[e3,tg]
 simp only[List.not_mem_nil,false_or]
 constructor
 ·rintro⟨j,_,h2,h3⟩
  have hm:eJ n ((j/2:Nat):Int)∈n.Legs:=rj (by omega) (by omega)
  unfold sU at h3
  split at h3
  ·exact⟨_,hm,.inr h3⟩
  ·exact⟨_,hm,.inl h3⟩
 ·rintro⟨x,hx,hz⟩
  obtain⟨i,hi,rfl⟩:=List.getElem_of_mem hx
  have hlg:eJ n ((i:Nat):Int)=n.Legs[i]:=by
   have:=dP (n:=n) (l:=((i:Nat):Int)) (by omega) (by omega)
   rw[Int.toNat_natCast,List.getElem?_eq_getElem hi] at this
   exact(Option.some.inj this).symm
  rcases hz with hz|hz
  ·refine⟨2*i,by omega,by omega,?_⟩
   unfold sU
   rw[if_neg (by omega),show 2*i/2=i by omega,hlg];exact hz
  ·refine⟨2*i+1,by omega,by omega,?_⟩
   unfold sU
   rw[if_pos (by omega),show(2*i+1)/2=i by omega,hlg];exact hz
theorem ek (n:Network) (z:ByteArray):z∈plc n↔∃x∈n.Legs,z=x.From∨z=x.To:=by unfold plc;rw[wl,tg]
theorem dp (n:Network):(plc n).length≤2*n.Legs.length:=by
 refine Nat.le_trans (B5 _) ?_
 unfold re
 induction n.Legs with
 |nil=>simp
 |cons x l ih=>simp only[List.flatMap_cons,List.length_append,List.length_cons,List.length_nil];omega
theorem Cl (s:ByteArray):∀(l:List ByteArray) (v:Int),0≤v→v+l.length≤4194304→cd G.real TE.real s l v=if s∈l then .ret (v+ixN l s) else .out ()
 |[],v,_,_=>by rw[cd];simp
 |z::l,v,h0,h1=>by
  simp only[List.length_cons] at h1
  rw[cd]
  simp only[gn,bq,am]
  rw[w64 (by omega) (by omega),Cl s l (v+1) (by omega) (by omega)]
  by_cases h:z=s
  ·rw[if_pos h,if_pos (by simp[h])]
   unfold ixN
   rw[if_pos h];simp
  ·rw[if_neg h]
   by_cases hm:s∈l
   ·rw[if_pos hm,if_pos (by simp[hm])]
    congr 1
    conv=>rhs;unfold ixN
    rw[if_neg h];omega
   ·rw[if_neg hm,if_neg (by simp[hm];exact fun e=>h e.symm)]
theorem pY {l:List ByteArray} (h:l.length≤4194304) (s:ByteArray):cJ G.real TE.real l s=ix l s:=by
 unfold cJ
 rw[Cl s l 0 (by omega) (by omega),a9]
 unfold ix
 split<;>simp
theorem Dt (s:ByteArray):∀(l:List ByteArray) (v:Int),dH G.real TE.real s l v=cd G.real TE.real s l v
 |[],v=>by rw[dH,cd]
 |z::l,v=>by rw[dH,cd,Dt s l]
theorem sC {l:List ByteArray} (h:l.length≤4194304) (s:ByteArray):cL G.real TE.real l s=ix l s:=by
 rw[←pY h s]
 unfold cL cJ
 rw[Dt]
end Go.Vs
namespace Go.Vs
open Go.IntWalk
def fdD (p:Int→Bool):Nat→Int→Option Int
 |0,_=>none
 |n+1,v=>if p v=true then some v else fdD p n (v+1)
theorem rH {p:Int→Bool}:∀{n:Nat} {v d:Int},fdD p n v=some d→p d=true∧v≤d∧d<v+n
 |n+1,v,d,h=>by
  unfold fdD at h
  split at h
  ·rename_i hp;cases h;exact⟨hp,by omega,by omega⟩
  ·obtain⟨h1,h2,h3⟩:=rH h;exact⟨h1,by omega,by omega⟩
def tbO (l:Int):Option Int→Trip×Bool
 |some d=>(⟨l,d⟩,true)
 |none=>(⟨0,0⟩,false)
def dyO:Option Int→Int
 |some d=>d
 |none=> -1
def pN (n:Network) (l at_:Int) (d:Int):Bool:=runsB n l d&&decide (at_≤stN n l d)
theorem zQ {n:Network} (hn:NetOk n) {l:Int} (at_:Int):∀(m:Nat) (v:Int),0≤v→v+m≤1000→fo G.real TE.real n l at_ m v=some (match fdD (pN n l at_) m v with|some d=>.ret (⟨l,d⟩,true)|none=>.out ())
 |0,v,_,_=>by rw[fo,fdD]
 |m+1,v,h0,h1=>by
  have hl:n.Legs.length≤1048576:=by have:=hn.len;omega
  rw[fo,fdD,Cp hl]
  simp only[ag,bq,jQ,am]
  rw[w64 (by omega) (by omega),zQ hn at_ m (v+1) (by omega) (by omega)]
  unfold pN
  cases hr:runsB n l v with
  |false=>rfl
  |true=>
   obtain⟨r1,r2,r3,r4⟩:=dU hl hr
   rw[cu,nA hn r1 r2 r3 r4,ag]
   by_cases hc:at_≤stN n l v
   ·rw[if_pos hc];simp[hc]
   ·rw[if_neg hc];simp[hc]
theorem FJ {n:Network} (hn:NetOk n) (l at_:Int):sh G.real TE.real n l at_=some (tbO l (fdD (pN n l at_) 61 0)):=by
 unfold sh
 rw[show eK 0 60=61 from rfl,zQ hn at_ 61 0 (by omega) (by omega),ag]
 cases fdD (pN n l at_) 61 0<;>rfl
theorem zE {n:Network} (hn:NetOk n) {l:Int} (at_:Int):∀(m:Nat) (v:Int),0≤v→v+m≤1000→ci G.real TE.real n l at_ m v=some (match fdD (pN n l at_) m v with|some d=>.ret d|none=>.out ())
 |0,v,_,_=>by rw[ci,fdD]
 |m+1,v,h0,h1=>by
  have hl:n.Legs.length≤1048576:=by have:=hn.len;omega
  rw[ci,fdD,yc hl]
  simp only[ag,bq,jQ,am]
  rw[w64 (by omega) (by omega),zE hn at_ m (v+1) (by omega) (by omega)]
  unfold pN
  cases hr:runsB n l v with
  |false=>rfl
  |true=>
   obtain⟨r1,r2,r3,r4⟩:=dU hl hr
   rw[cu,mg hn r1 r2 r3 r4,ag]
   by_cases hc:at_≤stN n l v
   ·rw[if_pos hc];simp[hc]
   ·rw[if_neg hc];simp[hc]
theorem BY {n:Network} (hn:NetOk n) (l at_:Int):fD G.real TE.real n l at_=some (dyO (fdD (pN n l at_) 61 0)):=by
 unfold fD
 rw[show eK 0 60=61 from rfl,zE hn at_ 61 0 (by omega) (by omega),ag]
 cases fdD (pN n l at_) 61 0<;>rfl
structure Find (fd:Fd) (n:Network) (f:Int→Int→Option Int):Prop where
 call:∀l a,callFd G.real TE.real fd l a=some (tbO l (f l a))
 ok:∀{l a d},f l a=some d→runsB n l d=true∧a≤stN n l d
def fN (n:Network) (l a:Int):Option Int:=fdD (pN n l a) 61 0
theorem f8 {n:Network} (hn:NetOk n):Find (.I_nextOf_1 n) n (fN n):=by
 refine⟨fun l a=>?_,fun{l a d} h=>?_⟩
 ·show I_nextOf_1 G.real TE.real l a n=_
  unfold I_nextOf_1
  rw[FJ hn,ag]
  rfl
 ·obtain⟨h1,_,_⟩:=rH h
  unfold pN at h1
  simpa using h1
end Go.Vs
