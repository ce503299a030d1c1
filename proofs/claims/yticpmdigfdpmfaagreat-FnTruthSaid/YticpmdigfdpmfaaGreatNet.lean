/- Part of the proofs of this seat's laws: Net. No condition. -/
import Derived.Test.YticpmdigfdpmfaaGreatHa
import Derived.Test.YticpmdigfdpmfaaGreatLac
import Derived.Test.YticpmdigfdpmfaaGreatLaa
import Derived.Test.YticpmdigfdpmfaaGreatLab
set_option linter.unusedVariables false
set_option linter.unusedSimpArgs false
set_option linter.unusedSectionVars false
namespace Go.Vs
open Go.IntWalk
theorem lA (a b c:Int):dO G.real TE.real a b c=decide (b≤a∧a≤c):=by
 unfold dO
 simp only[jz,dc]
 by_cases h1:b≤a
 ·by_cases h2:a≤c
  ·simp[h1,h2]
  ·simp[h1,h2]
 ·simp[h1]
theorem r9 (a b c:Int):gD G.real TE.real a b c=decide (b≤a∧a≤c):=by
 unfold gD
 simp only[jz,dc]
 by_cases h1:b≤a
 ·by_cases h2:a≤c
  ·simp[h1,h2]
  ·simp[h1,h2]
 ·simp[h1]
theorem C1 (a:ByteArray) (k:Int):0≤G.real.byte a k∧G.real.byte a k≤255:=by
 have e:G.real.byte a k=((a.data.getD k.toNat 0).toNat:Int):=rfl
 have:=(a.data.getD k.toNat 0).toNat_lt
 rw[e]
 omega
def okB (a:ByteArray):Nat→Nat→Bool
 |0,_=>true
 |n+1,k=>decide (65≤G.real.byte a (k:Int)∧G.real.byte a (k:Int)≤90)&&okB a n (k+1)
theorem tt (a:ByteArray) (ha:a.size≤1048576):∀(n k:Nat),k+n=a.size→dk G.real TE.real a n (k:Int)=if okB a n k=true then .out () else .ret false
 |0,k,_=>by rw[dk];rfl
 |n+1,k,h=>by
  rw[dk,okB]
  simp only[dc,bh,al]
  rw[w64 (by omega) (by omega),show(k:Int)+1=((k+1:Nat):Int) from by omega,tt a ha n (k+1) (by omega)]
  by_cases h1:G.real.byte a (k:Int)<65
  ·rw[if_pos h1,if_neg]
   simp only[Bool.and_eq_true,decide_eq_true_eq];omega
  ·rw[if_neg h1]
   by_cases h2:90<G.real.byte a (k:Int)
   ·rw[if_pos h2,if_neg]
    simp only[Bool.and_eq_true,decide_eq_true_eq];omega
   ·rw[if_neg h2]
    have:decide (65≤G.real.byte a (k:Int)∧G.real.byte a (k:Int)≤90)=true:=by simp only[decide_eq_true_eq];omega
    rw[this,Bool.true_and]
theorem uj (a:ByteArray) (ha:a.size≤1048576):∀(n k:Nat),k+n≤a.size→dq G.real TE.real a n (k:Int)=some (if okB a n k=true then .out () else .ret false)
 |0,k,_=>by rw[dq];rfl
 |n+1,k,h=>by
  have hb:=C1 a (k:Int)
  rw[dq,okB]
  simp only[bh,aN]
  rw[ag (by omega),w64 (n:=G.real.byte a (k:Int)) (by omega) (by omega),r9,al,w64 (by omega) (by omega),show(k:Int)+1=((k+1:Nat):Int) from by omega,uj a ha n (k+1) (by omega)]
  by_cases h1:65≤G.real.byte a (k:Int)∧G.real.byte a (k:Int)≤90
  ·rw[if_pos h1]
   simp[h1]
  ·rw[if_neg h1]
   simp only[h1,decide_false,Bool.false_and,Bool.false_eq_true,if_false]
theorem wx (a:ByteArray) (ha:a.size≤1048576):∃r,iA G.real TE.real a=some r∧iz G.real TE.real a=some r∧(r=true→a.size=3):=by
 have cn:∀n:Nat,aA 0 (n:Int)=n:=fun n=>by unfold aA;omega
 unfold iA iz
 simp only[eo,Fe,aN,de,al]
 rw[ag (by omega),cn,show(0:Int)=((0:Nat):Int) from rfl,tt a ha a.size 0 (by omega)]
 have e3:(3:Int)=((3:Nat):Int):=rfl
 by_cases h3:a.size=3
 ·have s3:=uj a ha 3 0 (by omega)
  cases hok:okB a a.size 0 with
  |true=>
   rw[h3] at hok
   rw[if_pos (c:=(true=true)) rfl,if_pos (c:=((a.size:Int)=3)) (by omega),e3,show aA ((0:Nat):Int) ((3:Nat):Int)=3 from rfl,s3,ae,hok]
   exact⟨true,by simp[h3],rfl,fun _=>h3⟩
  |false=>
   rw[h3] at hok
   rw[if_neg (c:=(false=true)) (by simp),if_pos (c:=((a.size:Int)=3)) (by omega),e3,show aA ((0:Nat):Int) ((3:Nat):Int)=3 from rfl,s3,ae,hok]
   exact⟨false,rfl,rfl,fun h=>by cases h⟩
 ·rw[if_neg (c:=((a.size:Int)=3)) (by omega)]
  refine⟨false,?_,rfl,fun h=>by cases h⟩
  split
  ·rw[rU];congr 1;simp only[decide_eq_false_iff_not];omega
  ·rfl
structure LegOk (l:Leg):Prop where
 start:0≤l.Start∧l.Start≤1439
 takes:1≤l.Takes∧l.Takes≤4320
 days:1≤l.Days∧l.Days≤127
 room:0≤l.Room∧l.Room≤1000000
 from3:l.From.size=3
 to3:l.To.size=3
 ne:l.From≠l.To
theorem FH (l:Leg) (hl:l.tot≤1048576):∃r,nM G.real TE.real l=some r∧nz G.real TE.real l=some r∧(r=true→LegOk l):=by
 unfold Leg.tot at hl
 obtain⟨r1,a1,a2,a3⟩:=wx l.From (by omega)
 obtain⟨r2,b1,b2,b3⟩:=wx l.To (by omega)
 unfold nM nz
 rw[a1,a2,b1,b2]
 simp only[ae,aN,lA,r9,al,fE]
 cases r1 with
 |false=>exact⟨false,rfl,rfl,fun h=>by cases h⟩
 |true=>
  cases r2 with
  |false=>exact⟨false,rfl,rfl,fun h=>by cases h⟩
  |true=>
   rw[bS,bS]
   by_cases c0:l.From=l.To
   ·rw[if_pos c0];exact⟨false,rfl,rfl,fun h=>by cases h⟩
   ·rw[if_neg c0]
    by_cases d1:0≤l.Start∧l.Start≤1439
    ·rw[if_pos d1]
     by_cases d2:1≤l.Takes∧l.Takes≤4320
     ·rw[if_pos d2]
      by_cases d3:1≤l.Days∧l.Days≤127
      ·rw[if_pos d3];exact⟨_,rfl,rfl,fun h=>⟨d1,d2,d3,by simpa using h,a3 rfl,b3 rfl,c0⟩⟩
      ·rw[if_neg d3];exact⟨false,rfl,rfl,fun h=>by cases h⟩
     ·rw[if_neg d2];exact⟨false,rfl,rfl,fun h=>by cases h⟩
    ·rw[if_neg d1];exact⟨false,rfl,rfl,fun h=>by cases h⟩
theorem Dh:∀(l:List Leg),(∀x∈l,Leg.tot x≤1048576)→∃o,cB G.real TE.real l=some o∧cA G.real TE.real l=some o∧(o=.ret false∨(o=.out ()∧∀x∈l,LegOk x))
 |[],_=>by rw[cB,cA];exact⟨_,rfl,rfl,Or.inr ⟨rfl,by simp⟩⟩
 |z::l,h=>by
  obtain⟨r,a1,a2,a3⟩:=FH z (h z (by simp))
  obtain⟨o,b1,b2,b3⟩:=Dh l fun x hx=>h x (by simp[hx])
  rw[cB,cA,a1,a2,ae,ae]
  cases r with
  |true=>
   rw[bS,bS,b1,b2]
   refine⟨o,rfl,rfl,?_⟩
   rcases b3 with b3|⟨b3,b4⟩
   ·exact Or.inl b3
   ·refine Or.inr ⟨b3,fun x hx=>?_⟩
    rcases List.mem_cons.1 hx with rfl|hx
    ·exact a3 rfl
    ·exact b4 x hx
  |false=>exact⟨_,rfl,rfl,Or.inl rfl⟩
theorem CL (n:Network) (hn:n.Off.length≤1048576):∀(l:List Int) (k:Nat),n.Off.drop k=l→∃o,bJ G.real TE.real n l (k:Int)=some o∧bR G.real TE.real n l (k:Int)=some o∧(o=.ret false∨o=.out ())
 |[],k,_=>by rw[bJ,bR];exact⟨_,rfl,rfl,Or.inr rfl⟩
 |z::l,k,h=>by
  have hk:k<n.Off.length:=by
   have:=congrArg List.length h
   simp at this;omega
  have ht:n.Off.drop (k+1)=l:=by
   have:=congrArg List.tail h
   simpa using this
  obtain⟨o,b1,b2,b3⟩:=CL n hn l (k+1) ht
  rw[bJ,bR]
  simp only[aN,lA,r9,al,dc,kV,bh,jz,bo]
  rw[w64 (n:=(k:Int)+1) (by omega) (by omega),show(k:Int)+1=((k+1:Nat):Int) from by omega,b1,b2]
  by_cases c1:0≤z∧z≤60
  ·rw[if_pos c1]
   by_cases c2:(0:Int)<k
   ·rw[if_pos c2,w64 (n:=(k:Int)-1) (by omega) (by omega),ag (by omega),show((k:Int)-1).toNat=k-1 from by omega,ar (List.getElem?_eq_getElem (show k-1<n.Off.length by omega))]
    split
    ·exact⟨_,rfl,rfl,Or.inl rfl⟩
    ·exact⟨o,rfl,rfl,b3⟩
   ·rw[if_neg c2];exact⟨o,rfl,rfl,b3⟩
  ·rw[if_neg c1];exact⟨_,rfl,rfl,Or.inl rfl⟩
structure NetOk (n:Network):Prop where
 len:n.Legs.length≤20
 legs:∀x∈n.Legs,LegOk x
 change:0≤n.Change∧n.Change≤240
theorem yb (n:Network) (h:n.tot≤1048576):∃r,cN G.real TE.real n=some r∧dW G.real TE.real n=some r∧(r=true→NetOk n):=by
 have h2:=h
 unfold Network.tot at h2
 obtain⟨o,a1,a2,a3⟩:=Dh n.Legs fun x hx=>by have h3:Leg.tot x≤sX (fun y=>Leg.tot y) n.Legs:=C5 (fun y=>Leg.tot y) hx;omega
 obtain⟨p,b1,b2,b3⟩:=CL n (by omega) n.Off 0 rfl
 unfold cN dW
 rw[show(0:Int)=((0:Nat):Int) from rfl,a1,a2,b1,b2]
 simp only[ae,aN,lA,r9,jz,al,qT,vt]
 rcases a3 with rfl|⟨rfl,a4⟩
 ·exact⟨false,rfl,rfl,fun h=>by cases h⟩
 ·rcases b3 with rfl|rfl
  ·exact⟨false,rfl,rfl,fun h=>by cases h⟩
  ·simp only[rU]
   by_cases c1:(n.Legs.length:Int)≤20
   ·rw[if_pos c1]
    split
    ·exact⟨_,rfl,rfl,fun h=>⟨by omega,a4,by simpa using h⟩⟩
    ·exact⟨false,rfl,rfl,fun h=>by cases h⟩
   ·rw[if_neg c1];exact⟨false,rfl,rfl,fun h=>by cases h⟩
def netB (n:Network):Bool:=(dW G.real TE.real n).getD false
theorem tV {n:Network} (h:n.tot≤1048576):cN G.real TE.real n=some (netB n):=by
 obtain⟨r,a1,a2,_⟩:=yb n h
 rw[a1];unfold netB;rw[a2];rfl
theorem Bv {n:Network} (h:n.tot≤1048576):dW G.real TE.real n=some (netB n):=by
 obtain⟨r,a1,a2,_⟩:=yb n h
 unfold netB;rw[a2];rfl
theorem gb {n:Network} (h:n.tot≤1048576) (hb:netB n=true):NetOk n:=by
 obtain⟨r,a1,a2,a3⟩:=yb n h
 refine a3 ?_
 unfold netB at hb;rw[a2] at hb;exact hb
def lgOf (n:Network) (l:Int):Leg:=n.Legs.getD l.toNat ⟨.empty,.empty,0,0,0,0⟩
theorem cL {n:Network} {l:Int} (h0:0≤l) (h1:l<n.Legs.length):n.Legs[l.toNat]?=some (lgOf n l):=by
 unfold lgOf
 rw[List.getD_eq_getElem?_getD,List.getElem?_eq_getElem (by omega)]
 rfl
theorem ln {n:Network} {l:Int} (h0:0≤l) (h1:l<n.Legs.length):lgOf n l∈n.Legs:=List.mem_of_getElem? (cL h0 h1)
end Go.Vs
namespace Go.Vs
open Go.IntWalk
theorem Hm (a:Int):G.real.band .i64 a 1=0∨G.real.band .i64 a 1=1:=by
 have h:(BitVec.ofInt 64 a&&& BitVec.ofInt 64 1).toNat≤1:=by
  rw[BitVec.toNat_and]
  exact Nat.le_trans Nat.and_le_right (by decide)
 have e:G.real.band .i64 a 1=(((BitVec.ofInt 64 a&&& BitVec.ofInt 64 1).toNat:Nat):Int):=w64 (n:=(((BitVec.ofInt 64 a&&& BitVec.ofInt 64 1).toNat:Nat):Int)) (by omega) (by omega)
 rw[e]
 omega
theorem Eu (a:Int) (l:List Int):fJ G.real TE.real a l=if a∈l then .ret false else .out ():=by
 induction l with
 |nil=>rw[fJ];simp
 |cons z l ih=>
  rw[fJ,ih]
  simp only[de,al]
  by_cases h:z=a
  ·rw[if_pos h,if_pos (by simp[h])]
  ·rw[if_neg h]
   by_cases h2:a∈l
   ·rw[if_pos h2,if_pos (by simp[h2])]
   ·rw[if_neg h2,if_neg (by simp[h2];exact fun e=>h e.symm)]
theorem Fq (a:Int) (l:List Int):eB G.real TE.real a l=if a∈l then .ret true else .out ():=by
 induction l with
 |nil=>rw[eB];simp
 |cons z l ih=>
  rw[eB,ih]
  simp only[de,al]
  by_cases h:z=a
  ·rw[if_pos h,if_pos (by simp[h])]
  ·rw[if_neg h]
   by_cases h2:a∈l
   ·rw[if_pos h2,if_pos (by simp[h2])]
   ·rw[if_neg h2,if_neg (by simp[h2];exact fun e=>h e.symm)]
theorem uM (n:Network) (h:n.Legs.length≤1048576) (a b:Int):∃r,kS G.real TE.real n a b=some r∧hO G.real TE.real n a b=some r∧(r=true→0≤a∧a<n.Legs.length∧0≤b∧b≤60):=by
 unfold kS hO qs
 simp only[aN,dc,jz,kV,qT,lA,r9,al,Eu,Fq,bo,de,vW]
 rw[w64 (n:=(n.Legs.length:Int)-1) (by omega) (by omega)]
 by_cases c1:a<0
 ·rw[if_pos c1,if_neg (by omega)];exact⟨false,rfl,rfl,fun h=>by cases h⟩
 ·rw[if_neg c1]
  by_cases c2:(n.Legs.length:Int)≤a
  ·rw[if_pos c2,if_neg (by omega)];exact⟨false,rfl,rfl,fun h=>by cases h⟩
  ·rw[if_neg c2,if_pos (c:=0≤a∧a≤(n.Legs.length:Int)-1) (by omega)]
   by_cases c3:0≤b∧b≤60
   ·have hx:n.Legs[a.toNat]?=some n.Legs[a.toNat]:=List.getElem?_eq_getElem (by omega)
    have hr:0≤b.tmod 7:=Int.tmod_nonneg _ c3.1
    rw[if_pos c3,if_pos c3,ag (by omega),ag (by omega),ar hx,ar hx,ag hr,ag hr]
    rcases Hm (G.real.shr .i64 n.Legs[a.toNat].Days (b.tmod 7)) with e|e
    ·rw[e,if_pos rfl,if_neg (by decide)];exact⟨false,rfl,rfl,fun h=>by cases h⟩
    ·rw[e,if_neg (by decide),if_pos rfl]
     by_cases c4:b∈n.Off
     ·rw[if_pos c4,if_pos c4];exact⟨false,rfl,rfl,fun h=>by cases h⟩
     ·rw[if_neg c4,if_neg c4];exact⟨true,rfl,rfl,fun _=>by omega⟩
   ·rw[if_neg c3,if_neg c3];exact⟨false,rfl,rfl,fun h=>by cases h⟩
def runsB (n:Network) (a b:Int):Bool:=(hO G.real TE.real n a b).getD false
theorem ya {n:Network} (h:n.Legs.length≤1048576) (a b:Int):kS G.real TE.real n a b=some (runsB n a b):=by
 obtain⟨r,a1,a2,_⟩:=uM n h a b
 rw[a1];unfold runsB;rw[a2];rfl
theorem Dc {n:Network} (h:n.Legs.length≤1048576) (a b:Int):hO G.real TE.real n a b=some (runsB n a b):=by
 obtain⟨r,a1,a2,_⟩:=uM n h a b
 unfold runsB;rw[a2];rfl
theorem cw {n:Network} (h:n.Legs.length≤1048576) {a b:Int} (hb:runsB n a b=true):0≤a∧a<n.Legs.length∧0≤b∧b≤60:=by
 obtain⟨r,a1,a2,a3⟩:=uM n h a b
 refine a3 ?_
 unfold runsB at hb;rw[a2] at hb;exact hb
theorem dj {n:Network} (h:n.tot≤1048576):n.Legs.length≤1048576:=by unfold Network.tot at h;omega
def cf (n:Network) (q:Trip):Bool:=netB n&&runsB n q.Leg q.Day
theorem yl {n:Network} (h:n.tot≤1048576) (q:Trip):ge G.real TE.real n q=some (cf n q):=by
 unfold ge nP cf
 rw[tV h,ya (dj h)]
 cases netB n<;>rfl
theorem C6 {n:Network} (h:n.tot≤1048576) (q:Trip):jL G.real TE.real n q=some (cf n q):=by
 unfold jL oe cf
 rw[Bv h,Dc (dj h)]
 cases netB n<;>rfl
def stN (n:Network) (l d:Int):Int:=d*1440+(lgOf n l).Start
def enN (n:Network) (l d:Int):Int:=stN n l d+(lgOf n l).Takes
theorem kU {n:Network} (hn:NetOk n) {l d:Int} (h0:0≤l) (h1:l<n.Legs.length) (h2:0≤d) (h3:d≤60):d*1440≤stN n l d∧stN n l d≤87839∧stN n l d<enN n l d∧enN n l d≤92159:=by
 have:=hn.legs _ (ln h0 h1)
 have h4:=this.start
 have h5:=this.takes
 unfold enN stN
 omega
theorem iq {n:Network} (hn:NetOk n) {l d:Int} (h0:0≤l) (h1:l<n.Legs.length) (h2:0≤d) (h3:d≤60):bK G.real TE.real n ⟨l,d⟩=some (stN n l d):=by
 have hr:=kU hn h0 h1 h2 h3
 unfold bK
 simp only[bo,bh,mw]
 rw[ag h0,ar (cL h0 h1),w64 (n:=d*1440) (by omega) (by omega),w64 (by unfold stN at hr;omega) (by unfold stN at hr;omega)]
 rfl
theorem ot {n:Network} (hn:NetOk n) {l d:Int} (h0:0≤l) (h1:l<n.Legs.length) (h2:0≤d) (h3:d≤60):ec G.real TE.real n ⟨l,d⟩=some (stN n l d):=by
 have hr:=kU hn h0 h1 h2 h3
 unfold ec
 simp only[bo,bh,mw]
 rw[ag h0,ar (cL h0 h1),w64 (n:=d*1440) (by omega) (by omega),w64 (by unfold stN at hr;omega) (by unfold stN at hr;omega)]
 rfl
theorem qM {n:Network} (hn:NetOk n) {l d:Int} (h0:0≤l) (h1:l<n.Legs.length) (h2:0≤d) (h3:d≤60):ew G.real TE.real n ⟨l,d⟩=some (enN n l d):=by
 have hr:=kU hn h0 h1 h2 h3
 unfold ew
 rw[iq hn h0 h1 h2 h3,ae]
 simp only[bo,bh]
 rw[ag h0,ar (cL h0 h1),w64 (by unfold enN at hr;omega) (by unfold enN at hr;omega)]
 rfl
theorem B0 {n:Network} (hn:NetOk n) {l d:Int} (h0:0≤l) (h1:l<n.Legs.length) (h2:0≤d) (h3:d≤60):hJ G.real TE.real n ⟨l,d⟩=some (enN n l d):=by
 have hr:=kU hn h0 h1 h2 h3
 unfold hJ
 rw[ot hn h0 h1 h2 h3,ae]
 simp only[bo,bh]
 rw[ag h0,ar (cL h0 h1),w64 (by unfold enN at hr;omega) (by unfold enN at hr;omega)]
 rfl
end Go.Vs
namespace Go.Vs
open Go.IntWalk
theorem xo (w:List ByteArray) (x:ByteArray):G.real.hasS w x=true↔x∈w:=by
 have e:G.real.hasS w x=hasL w x:=rfl
 rw[e]
 unfold hasL
 simp
theorem C0 (w:List ByteArray) (x z:ByteArray):z∈G.real.putS w x↔z∈w∨z=x:=by
 have ep:G.real.putS w x=putL w x:=rfl
 rw[ep]
 unfold putL
 split
 ·rename_i h
  exact⟨.inl,fun hh=>hh.elim id (fun e=>e▸h)⟩
 ·simp
theorem yw (a b:ByteArray):∀(n k:Nat) (w3 w4:List ByteArray),k+n=2→w4.length+n≤5000000→(∀p,p∈w3↔p∈w4)→w4.Nodup→
 ∃u3 u4,ct G.real TE.real [a,b] n (k:Int) w3 w4=some (u3,u4)∧(∀p,p∈u3↔p∈u4)∧u4.Nodup∧u4.length≤w4.length+n∧∀p,p∈u4↔p∈w4∨p∈[a,b].drop k
 |0,k,w3,w4,hk,_,h,hn=>by
  rw[ct]
  exact⟨w3,w4,rfl,h,hn,by omega,fun p=>by rw[List.drop_of_length_le (by simp;omega)];simp⟩
 |n+1,k,w3,w4,hk,hl,h,hn=>by
  have hkl:k<[a,b].length:=by simp;omega
  have hx:[a,b][k]?=some ([a,b][k]'hkl):=List.getElem?_eq_getElem hkl
  have hd:=List.drop_eq_getElem_cons hkl
  generalize [a,b][k]'hkl=x at hx hd
  rw[ct]
  simp only[bo,Int.toNat_natCast,aN,bh]
  rw[ar hx,w64 (by omega) (by omega),show(k:Int)+1=((k+1:Nat):Int) from by omega]
  cases hb:G.real.hasS w3 x with
  |true=>
   have hm:=(xo _ _).1 hb
   rw[bS]
   obtain⟨u3,u4,e1,e2,e5,e3,e4⟩:=yw a b n (k+1) w3 w4 (by omega) (by omega) h hn
   refine⟨u3,u4,e1,e2,e5,by omega,fun p=>?_⟩
   rw[e4,hd]
   simp only[List.mem_cons]
   constructor
   ·rintro(q|q)
    ·exact .inl q
    ·exact .inr (.inr q)
   ·rintro(q|rfl|q)
    ·exact .inl q
    ·exact .inl ((h _).1 hm)
    ·exact .inr q
  |false=>
   have hm:x∉w3:=fun hh=>by rw[(xo _ _).2 hh] at hb;cases hb
   rw[lO,ag (by simp only[List.length_cons,List.length_nil];omega)]
   obtain⟨u3,u4,e1,e2,e5,e3,e4⟩:=yw a b n (k+1) (G.real.putS w3 x) (w4++[x]) (by omega) (by simp;omega) (fun p=>by
    rw[C0];simp[h p]) (by
    rw[List.nodup_append]
    refine⟨hn,by simp,fun y hy z hz=>?_⟩
    simp only[List.mem_singleton] at hz
    subst hz
    intro e;subst e
    exact hm ((h _).2 hy))
   refine⟨u3,u4,e1,e2,e5,by simp at e3;omega,fun p=>?_⟩
   rw[e4,hd]
   simp only[List.mem_append,List.mem_cons,List.not_mem_nil,or_false]
   constructor
   ·rintro((q|q)|q)
    ·exact .inl q
    ·exact .inr (.inl q)
    ·exact .inr (.inr q)
   ·rintro(q|q|q)
    ·exact .inl (.inl q)
    ·exact .inl (.inr q)
    ·exact .inr q
def sz (l:List Leg):List ByteArray:=l.flatMap fun x=>[x.From,x.To]
theorem tG (l:List Leg) (p:ByteArray):p∈sz l↔∃x∈l,p=x.From∨p=x.To:=by
 unfold sz
 simp[List.mem_flatMap]
theorem Cc:∀(l:List Leg) (w1 w2:List ByteArray),w2.length+2*l.length≤4194304→(∀p,p∈w1↔p∈w2)→w2.Nodup→
 ∃u,cU G.real TE.real l w1 w2=some u∧u.Nodup∧u.length≤w2.length+2*l.length∧∀p,p∈u↔p∈w2∨p∈sz l
 |[],w1,w2,_,_,hn=>by rw[cU];exact⟨w2,rfl,hn,by simp,by simp[sz]⟩
 |z::l,w1,w2,hl,h,hn=>by
  simp only[List.length_cons] at hl
  obtain⟨u3,u4,e1,e2,e5,e3,e4⟩:=yw z.From z.To 2 0 w1 w2 rfl (by omega) h hn
  obtain⟨u,f1,f4,f2,f3⟩:=Cc l u3 u4 (by omega) e2 e5
  rw[cU]
  simp only[eo,gT,List.length_cons,List.length_nil,lP]
  rw[ag (by omega),show aA 0 (((0+1+1:Nat)):Int)=2 from rfl,show(0:Int)=((0:Nat):Int) from rfl,e1,ae]
  refine⟨u,f1,f4,by omega,fun p=>?_⟩
  rw[f3,e4]
  simp only[sz,List.flatMap_cons,List.mem_append,List.drop_zero,List.mem_cons,List.not_mem_nil,or_false,or_assoc]
def plc (n:Network):List ByteArray:=xE (sz n.Legs)
theorem xA {n:Network} (h:n.Legs.length≤1048576):dH G.real TE.real n=some (plc n):=by
 obtain⟨u,e1,e4,e2,e3⟩:=Cc n.Legs [] [] (by simp;omega) (by simp) (by simp)
 simp only[List.length_nil] at e2
 unfold dH
 rw[aN,e1,ae]
 unfold iK
 rw[ag (by omega),ae,ag (wU u)]
 congr 1
 refine zB (pW e4) fun x=>?_
 rw[wS,e3]
 simp
def bf (p:ByteArray):List ByteArray→Nat
 |[]=>0
 |x::l=>if bLt x p then bf p l+1 else 0
theorem yZ (p:ByteArray):∀l,bf p l≤l.length
 |[]=>by simp[bf]
 |x::l=>by
  have:=yZ p l
  unfold bf
  split<;>simp<;>omega
theorem tN (p:ByteArray):∀l:List ByteArray,∀z∈l.take (bf p l),bLt z p
 |[],z,h=>by simp at h
 |x::l,z,h=>by
  unfold bf at h
  split at h
  ·rename_i hx
   simp only[List.take_succ_cons,List.mem_cons] at h
   rcases h with rfl|h
   ·exact hx
   ·exact tN p l z h
  ·simp at h
theorem oN (p:ByteArray):∀{l:List ByteArray},l.Pairwise bLt→∀z∈l.drop (bf p l),¬bLt z p
 |[],_,z,h=>by simp at h
 |x::l,hs,z,h=>by
  obtain⟨h1,h2⟩:=List.pairwise_cons.1 hs
  unfold bf at h
  split at h
  ·exact oN p h2 z (by simpa using h)
  ·rename_i hx
   simp only[List.drop_zero,List.mem_cons] at h
   rcases h with rfl|h
   ·exact hx
   ·exact fun hz=>hx (tT (h1 _ h) hz)
def qI (l:List ByteArray) (p:ByteArray):List ByteArray:=if l[bf p l]?=some p then l else l.take (bf p l)++p::l.drop (bf p l)
theorem BQ (l:List ByteArray) (p z:ByteArray):z∈qI l p↔z∈l∨z=p:=by
 unfold qI
 split
 ·rename_i h
  exact⟨.inl,fun hh=>hh.elim id (fun e=>e▸List.mem_of_getElem? h)⟩
 ·have hm:z∈l↔z∈l.take (bf p l)∨z∈l.drop (bf p l):=by rw[←List.mem_append,List.take_append_drop]
  rw[List.mem_append,List.mem_cons,hm]
  constructor
  ·rintro(h|h|h)
   ·exact .inl (.inl h)
   ·exact .inr h
   ·exact .inl (.inr h)
  ·rintro((h|h)|h)
   ·exact .inl h
   ·exact .inr (.inr h)
   ·exact .inr (.inl h)
theorem xy {l:List ByteArray} (p:ByteArray) (hs:l.Pairwise bLt):(qI l p).Pairwise bLt:=by
 unfold qI
 split
 ·exact hs
 ·rename_i hne
  have hap:l.Pairwise bLt:=hs
  rw[←List.take_append_drop (bf p l) l,List.pairwise_append] at hap
  obtain⟨a1,a2,a3⟩:=hap
  have hd:∀z∈l.drop (bf p l),bLt p z:=fun z hz=>by
   rcases yO p z with h|h|h
   ·exact h
   ·subst h
    exfalso
    cases hdr:l.drop (bf p l) with
    |nil=>rw[hdr] at hz;simp at hz
    |cons y m=>
     have hy:l[bf p l]?=some y:=by
      have:(l.drop (bf p l))[0]?=some y:=by rw[hdr];rfl
      simpa using this
     rw[hdr] at hz
     rcases List.mem_cons.1 hz with e|hz
     ·subst e;exact hne hy
     ·rw[hdr,List.pairwise_cons] at a2
      exact oN p hs y (by rw[hdr];simp) (a2.1 _ hz)
   ·exact absurd h (oN p hs z hz)
  rw[List.pairwise_append]
  refine⟨a1,List.pairwise_cons.2 ⟨hd,a2⟩,fun x hx y hy=>?_⟩
  rcases List.mem_cons.1 hy with rfl|hy
  ·exact tN y l x hx
  ·exact a3 x hx y hy
theorem CM (l:List ByteArray) (p:ByteArray):(qI l p).length≤l.length+1:=by
 unfold qI
 split
 ·omega
 ·simp;omega
theorem Dw (w:List ByteArray) (x:Leg) (hw:w.length≤4194304):∀(n k:Nat),k+n=w.length→cg G.real TE.real w x n (k:Int)=some ((k+bf x.To (w.drop k):Nat):Int)
 |0,k,h=>by rw[cg,List.drop_of_length_le (by omega)];rfl
 |n+1,k,h=>by
  have hk:k<w.length:=by omega
  rw[cg]
  simp only[bo,Int.toNat_natCast,bh,ES,al]
  rw[ar (List.getElem?_eq_getElem hk),w64 (by omega) (by omega),show(k:Int)+1=((k+1:Nat):Int) from by omega,Dw w x hw n (k+1) (by omega),List.drop_eq_getElem_cons hk,bf]
  split
  ·congr 2;omega
  ·rfl
theorem C7 (w:List ByteArray) (x:Leg) (hw:w.length≤4194304):∀(n k:Nat),k+n=w.length→co G.real TE.real w x n (k:Int)=some ((k+bf x.From (w.drop k):Nat):Int)
 |0,k,h=>by rw[co,List.drop_of_length_le (by omega)];rfl
 |n+1,k,h=>by
  have hk:k<w.length:=by omega
  rw[co]
  simp only[bo,Int.toNat_natCast,bh,ES,al]
  rw[ar (List.getElem?_eq_getElem hk),w64 (by omega) (by omega),show(k:Int)+1=((k+1:Nat):Int) from by omega,C7 w x hw n (k+1) (by omega),List.drop_eq_getElem_cons hk,bf]
  split
  ·congr 2;omega
  ·rfl
theorem y8 {γ:Type} {w:List ByteArray} {p:ByteArray} (hw:w.length≤4194304) {k:List ByteArray→Option γ} {k2:Option γ} (h2:w[bf p w]?=some p→k2=k w):
 (br (decide (((bf p w:Nat):Int)=(w.length:Int)))
  (gd ((0:Int)≤0∧0≤((bf p w:Nat):Int)∧((bf p w:Nat):Int)≤((w.length:Nat):Int))<|
   gd (Int.toNat 0+(Int.toNat ((bf p w:Nat):Int)-Int.toNat 0)≤w.length)<|
   gd ((([]:List ByteArray).length+(List.take (Int.toNat ((bf p w:Nat):Int)-Int.toNat 0) (List.drop (Int.toNat 0) w)).length)*16≤70368744177664)<|
   gd ((([]++(List.take (Int.toNat ((bf p w:Nat):Int)-Int.toNat 0) (List.drop (Int.toNat 0) w))).length+[p].length)*16≤70368744177664)<|
   gd ((0:Int)≤((bf p w:Nat):Int)∧((bf p w:Nat):Int)≤(w.length:Int)∧(w.length:Int)≤((w.length:Nat):Int))<|
   gd (Int.toNat ((bf p w:Nat):Int)+(Int.toNat (w.length:Int)-Int.toNat ((bf p w:Nat):Int))≤w.length)<|
   gd ((([]++(List.take (Int.toNat ((bf p w:Nat):Int)-Int.toNat 0) (List.drop (Int.toNat 0) w))++[p]).length+(List.take (Int.toNat (w.length:Int)-Int.toNat ((bf p w:Nat):Int)) (List.drop (Int.toNat ((bf p w:Nat):Int)) w)).length)*16≤70368744177664)<|
   k ([]++(List.take (Int.toNat ((bf p w:Nat):Int)-Int.toNat 0) (List.drop (Int.toNat 0) w))++[p]++(List.take (Int.toNat (w.length:Int)-Int.toNat ((bf p w:Nat):Int)) (List.drop (Int.toNat ((bf p w:Nat):Int)) w))))
  (gd ((0:Int)≤((bf p w:Nat):Int)∧((bf p w:Nat):Int)<((w.length:Nat):Int))<|
   gt w (Int.toNat ((bf p w:Nat):Int)) fun x3=>
   br (decide (x3=p)) k2
   (gd ((0:Int)≤0∧0≤((bf p w:Nat):Int)∧((bf p w:Nat):Int)≤((w.length:Nat):Int))<|
   gd (Int.toNat 0+(Int.toNat ((bf p w:Nat):Int)-Int.toNat 0)≤w.length)<|
   gd ((([]:List ByteArray).length+(List.take (Int.toNat ((bf p w:Nat):Int)-Int.toNat 0) (List.drop (Int.toNat 0) w)).length)*16≤70368744177664)<|
   gd ((([]++(List.take (Int.toNat ((bf p w:Nat):Int)-Int.toNat 0) (List.drop (Int.toNat 0) w))).length+[p].length)*16≤70368744177664)<|
   gd ((0:Int)≤((bf p w:Nat):Int)∧((bf p w:Nat):Int)≤(w.length:Int)∧(w.length:Int)≤((w.length:Nat):Int))<|
   gd (Int.toNat ((bf p w:Nat):Int)+(Int.toNat (w.length:Int)-Int.toNat ((bf p w:Nat):Int))≤w.length)<|
   gd ((([]++(List.take (Int.toNat ((bf p w:Nat):Int)-Int.toNat 0) (List.drop (Int.toNat 0) w))++[p]).length+(List.take (Int.toNat (w.length:Int)-Int.toNat ((bf p w:Nat):Int)) (List.drop (Int.toNat ((bf p w:Nat):Int)) w)).length)*16≤70368744177664)<|
   k ([]++(List.take (Int.toNat ((bf p w:Nat):Int)-Int.toNat 0) (List.drop (Int.toNat 0) w))++[p]++(List.take (Int.toNat (w.length:Int)-Int.toNat ((bf p w:Nat):Int)) (List.drop (Int.toNat ((bf p w:Nat):Int)) w))))))=k (qI w p):=by
 have hle:=yZ p w
 have hv:[]++(List.take (Int.toNat ((bf p w:Nat):Int)-Int.toNat 0) (List.drop (Int.toNat 0) w))++[p]++(List.take (Int.toNat (w.length:Int)-Int.toNat ((bf p w:Nat):Int)) (List.drop (Int.toNat ((bf p w:Nat):Int)) w))=w.take (bf p w)++p::w.drop (bf p w):=by
  simp only[Int.toNat_natCast,Int.toNat_zero,Nat.sub_zero,List.drop_zero,List.nil_append]
  rw[List.take_of_length_le (l:=List.drop (bf p w) w) (by simp)]
  simp
 have hlt:(List.take (bf p w) w).length≤w.length:=by simp;omega
 by_cases hc:bf p w=w.length
 ·rw[al,if_pos (by omega)]
  repeat rw[ag (by simp;omega)]
  rw[hv]
  unfold qI
  rw[if_neg]
  rw[List.getElem?_eq_none (by omega)]
  simp
 ·have hx:w[Int.toNat ((bf p w:Nat):Int)]?=some (w[bf p w]'(by omega)):=by
   rw[Int.toNat_natCast];exact List.getElem?_eq_getElem (by omega)
  rw[al,if_neg (by omega),ag (by omega),ar hx,al]
  by_cases he:w[bf p w]'(by omega)=p
  ·have hp:w[bf p w]?=some p:=by rw[List.getElem?_eq_getElem (by omega),he]
   rw[if_pos he,h2 hp]
   unfold qI
   rw[if_pos hp]
  ·rw[if_neg he]
   repeat rw[ag (by simp;omega)]
   rw[hv]
   unfold qI
   rw[if_neg]
   rw[List.getElem?_eq_getElem (by omega)]
   simpa using he
def sO (n:Network) (v:Nat):ByteArray:=if v%2=1 then(lgOf n ((v/2:Nat):Int)).To else(lgOf n ((v/2:Nat):Int)).From
theorem CR (n:Network) (hn:n.Legs.length≤1048576):∀(m v:Nat) (w:List ByteArray),v+m=2*n.Legs.length→w.length≤v→w.Pairwise bLt→
 ∃u,aL G.real TE.real n m (v:Int) w=some u∧u.Pairwise bLt∧∀z,z∈u↔z∈w∨∃j,v≤j∧j<2*n.Legs.length∧z=sO n j
 |0,v,w,h,_,hs=>by
  rw[aL]
  refine⟨w,rfl,hs,fun z=>⟨.inl,?_⟩⟩
  rintro(h2|⟨j,h1,h2,_⟩)
  ·exact h2
  ·omega
 |m+1,v,w,h,hl,hs=>by
  have hq:Int.tdiv (v:Int) 2=((v/2:Nat):Int):=by rw[Int.tdiv_eq_ediv_of_nonneg (by omega)];omega
  have hr:Int.tmod (v:Int) 2=((v%2:Nat):Int):=by rw[Int.tmod_eq_emod_of_nonneg (by omega)];omega
  have hlt:v/2<n.Legs.length:=by omega
  have hg:n.Legs[v/2]?=some (lgOf n ((v/2:Nat):Int)):=by
   have:=cL (n:=n) (l:=((v/2:Nat):Int)) (by omega) (by omega)
   rwa [Int.toNat_natCast] at this
  obtain⟨u,e1,e2,e3⟩:=CR n hn m (v+1) (qI w (sO n v)) (by omega) (by have:=CM w (sO n v);omega) (xy _ hs)
  refine⟨u,?_,e2,fun z=>?_⟩
  ·rw[←e1,aL]
   simp only[HH,vW,bh,bo,eo,gT,de,hq,hr,aN,fE,Fg,FSq]
   rw[w64 (n:=((v/2:Nat):Int)) (by omega) (by omega),ag (by omega),Int.toNat_natCast (v/2),ar hg,w64 (n:=(v:Int)+1) (by omega) (by omega),show(v:Int)+1=((v+1:Nat):Int) from by omega]
   have cn:aA 0 (w.length:Int)=w.length:=by unfold aA;omega
   have z2:cg G.real TE.real w (lgOf n ((v/2:Nat):Int)) w.length 0=some ((bf (lgOf n ((v/2:Nat):Int)).To w:Nat):Int):=by simpa using Dw w (lgOf n ((v/2:Nat):Int)) (by omega) w.length 0 (by omega)
   have z3:co G.real TE.real w (lgOf n ((v/2:Nat):Int)) w.length 0=some ((bf (lgOf n ((v/2:Nat):Int)).From w:Nat):Int):=by simpa using C7 w (lgOf n ((v/2:Nat):Int)) (by omega) w.length 0 (by omega)
   rw[ag (c:=(0:Int)≤((v/2:Nat):Int)) (by omega),ag (by omega),cn,z2,z3,ae,ae]
   by_cases hv:v%2=1
   ·have hp:sO n v=(lgOf n ((v/2:Nat):Int)).To:=by unfold sO;rw[if_pos hv]
    rw[al,if_pos (by omega)]
    have:=y8 (γ:=List ByteArray) (w:=w) (p:=(lgOf n ((v/2:Nat):Int)).To) (by omega) (k:=fun l=>aL G.real TE.real n m ((v+1:Nat):Int) l) (k2:=aL G.real TE.real n m ((v+1:Nat):Int) w) (fun _=>rfl)
    rw[hp]
    exact this
   ·have hp:sO n v=(lgOf n ((v/2:Nat):Int)).From:=by unfold sO;rw[if_neg hv]
    rw[al,if_neg (by omega)]
    have:=y8 (γ:=List ByteArray) (w:=w) (p:=(lgOf n ((v/2:Nat):Int)).From) (by omega) (k:=fun l=>aL G.real TE.real n m ((v+1:Nat):Int) l) (k2:=aL G.real TE.real n m ((v+1:Nat):Int) w) (fun _=>rfl)
    rw[hp,ag (by omega)]
    exact this
  ·rw[e3,BQ]
   constructor
   ·rintro((h1|h1)|⟨j,h1,h2,h3⟩)
    ·exact .inl h1
    ·exact .inr ⟨v,by omega,by omega,h1⟩
    ·exact .inr ⟨j,by omega,h2,h3⟩
   ·rintro(h1|⟨j,h1,h2,h3⟩)
    ·exact .inl (.inl h1)
    ·by_cases hj:j=v
     ·subst hj;exact .inl (.inr h3)
     ·exact .inr ⟨j,by omega,h2,h3⟩
theorem wM {n:Network} (h:n.Legs.length≤1048576):eM G.real TE.real n=some (plc n):=by
 obtain⟨u,e1,e2,e3⟩:=CR n h (2*n.Legs.length) 0 [] (by omega) (by simp) (by simp)
 unfold eM
 simp only[aN,mw,qT]
 have cn:aA 0 (2* (n.Legs.length:Int))=2*n.Legs.length:=by unfold aA;omega
 rw[w64 (by omega) (by omega),ag (by omega),cn,show(0:Int)=((0:Nat):Int) from rfl,e1,ae]
 congr 1
 refine zB e2 fun z=>?_
 rw[e3,tG]
 simp only[List.not_mem_nil,false_or]
 constructor
 ·rintro⟨j,_,h2,h3⟩
  have hm:lgOf n ((j/2:Nat):Int)∈n.Legs:=ln (by omega) (by omega)
  unfold sO at h3
  split at h3
  ·exact⟨_,hm,.inr h3⟩
  ·exact⟨_,hm,.inl h3⟩
 ·rintro⟨x,hx,hz⟩
  obtain⟨i,hi,rfl⟩:=List.getElem_of_mem hx
  have hlg:lgOf n ((i:Nat):Int)=n.Legs[i]:=by
   have:=cL (n:=n) (l:=((i:Nat):Int)) (by omega) (by omega)
   rw[Int.toNat_natCast,List.getElem?_eq_getElem hi] at this
   exact(Option.some.inj this).symm
  rcases hz with hz|hz
  ·refine⟨2*i,by omega,by omega,?_⟩
   unfold sO
   rw[if_neg (by omega),show 2*i/2=i by omega,hlg];exact hz
  ·refine⟨2*i+1,by omega,by omega,?_⟩
   unfold sO
   rw[if_pos (by omega),show(2*i+1)/2=i by omega,hlg];exact hz
theorem db (n:Network) (z:ByteArray):z∈plc n↔∃x∈n.Legs,z=x.From∨z=x.To:=by unfold plc;rw[vy,tG]
theorem da (n:Network):(plc n).length≤2*n.Legs.length:=by
 refine Nat.le_trans (BX _) ?_
 unfold sz
 induction n.Legs with
 |nil=>simp
 |cons x l ih=>simp only[List.flatMap_cons,List.length_append,List.length_cons,List.length_nil];omega
theorem CI (s:ByteArray):∀(l:List ByteArray) (v:Int),0≤v→v+l.length≤4194304→bM G.real TE.real s l v=if s∈l then .ret (v+ixN l s) else .out ()
 |[],v,_,_=>by rw[bM];simp
 |z::l,v,h0,h1=>by
  simp only[List.length_cons] at h1
  rw[bM]
  simp only[fE,bh,al]
  rw[w64 (by omega) (by omega),CI s l (v+1) (by omega) (by omega)]
  by_cases h:z=s
  ·rw[if_pos h,if_pos (by simp[h])]
   unfold ixN
   rw[if_pos h];simp
  ·rw[if_neg h]
   by_cases hm:s∈l
   ·rw[if_pos hm,if_pos (by simp[hm])]
    congr 1
    conv=>rhs;unfold ixN
    rw[if_neg h];omega
   ·rw[if_neg hm,if_neg (by simp[hm];exact fun e=>h e.symm)]
theorem pK {l:List ByteArray} (h:l.length≤4194304) (s:ByteArray):cD G.real TE.real l s=ix l s:=by
 unfold cD
 rw[CI s l 0 (by omega) (by omega),aN]
 unfold ix
 split<;>simp
theorem CZ (s:ByteArray):∀(l:List ByteArray) (v:Int),dw G.real TE.real s l v=bM G.real TE.real s l v
 |[],v=>by rw[dw,bM]
 |z::l,v=>by rw[dw,bM,CZ s l]
theorem tR {l:List ByteArray} (h:l.length≤4194304) (s:ByteArray):df G.real TE.real l s=ix l s:=by
 rw[←pK h s]
 unfold df cD
 rw[CZ]
end Go.Vs
namespace Go.Vs
open Go.IntWalk
def fdD (p:Int→Bool):Nat→Int→Option Int
 |0,_=>none
 |n+1,v=>if p v=true then some v else fdD p n (v+1)
theorem qB {p:Int→Bool}:∀{n:Nat} {v d:Int},fdD p n v=some d→p d=true∧v≤d∧d<v+n
 |n+1,v,d,h=>by
  unfold fdD at h
  split at h
  ·rename_i hp;cases h;exact⟨hp,by omega,by omega⟩
  ·obtain⟨h1,h2,h3⟩:=qB h;exact⟨h1,by omega,by omega⟩
def tbO (l:Int):Option Int→Trip×Bool
 |some d=>(⟨l,d⟩,true)
 |none=>(⟨0,0⟩,false)
def dyO:Option Int→Int
 |some d=>d
 |none=> -1
def pN (n:Network) (l at_:Int) (d:Int):Bool:=runsB n l d&&decide (at_≤stN n l d)
theorem yP {n:Network} (hn:NetOk n) {l:Int} (at_:Int):∀(m:Nat) (v:Int),0≤v→v+m≤1000→eS G.real TE.real n l at_ m v=some (match fdD (pN n l at_) m v with|some d=>.ret (⟨l,d⟩,true)|none=>.out ())
 |0,v,_,_=>by rw[eS,fdD]
 |m+1,v,h0,h1=>by
  have hl:n.Legs.length≤1048576:=by have:=hn.len;omega
  rw[eS,fdD,ya hl]
  simp only[ae,bh,jz,al]
  rw[w64 (by omega) (by omega),yP hn at_ m (v+1) (by omega) (by omega)]
  unfold pN
  cases hr:runsB n l v with
  |false=>rfl
  |true=>
   obtain⟨r1,r2,r3,r4⟩:=cw hl hr
   rw[bS,iq hn r1 r2 r3 r4,ae]
   by_cases hc:at_≤stN n l v
   ·rw[if_pos hc];simp[hc]
   ·rw[if_neg hc];simp[hc]
theorem FV {n:Network} (hn:NetOk n) (l at_:Int):rD G.real TE.real n l at_=some (tbO l (fdD (pN n l at_) 61 0)):=by
 unfold rD
 rw[show dt 0 60=61 from rfl,yP hn at_ 61 0 (by omega) (by omega),ae]
 cases fdD (pN n l at_) 61 0<;>rfl
theorem zk {n:Network} (hn:NetOk n) {l:Int} (at_:Int):∀(m:Nat) (v:Int),0≤v→v+m≤1000→dm G.real TE.real n l at_ m v=some (match fdD (pN n l at_) m v with|some d=>.ret d|none=>.out ())
 |0,v,_,_=>by rw[dm,fdD]
 |m+1,v,h0,h1=>by
  have hl:n.Legs.length≤1048576:=by have:=hn.len;omega
  rw[dm,fdD,Dc hl]
  simp only[ae,bh,jz,al]
  rw[w64 (by omega) (by omega),zk hn at_ m (v+1) (by omega) (by omega)]
  unfold pN
  cases hr:runsB n l v with
  |false=>rfl
  |true=>
   obtain⟨r1,r2,r3,r4⟩:=cw hl hr
   rw[bS,ot hn r1 r2 r3 r4,ae]
   by_cases hc:at_≤stN n l v
   ·rw[if_pos hc];simp[hc]
   ·rw[if_neg hc];simp[hc]
theorem Di {n:Network} (hn:NetOk n) (l at_:Int):iM G.real TE.real n l at_=some (dyO (fdD (pN n l at_) 61 0)):=by
 unfold iM
 rw[show dt 0 60=61 from rfl,zk hn at_ 61 0 (by omega) (by omega),ae]
 cases fdD (pN n l at_) 61 0<;>rfl
structure Find (fd:Fd) (n:Network) (f:Int→Int→Option Int):Prop where
 call:∀l a,callFd G.real TE.real fd l a=some (tbO l (f l a))
 ok:∀{l a d},f l a=some d→runsB n l d=true∧a≤stN n l d
def fN (n:Network) (l a:Int):Option Int:=fdD (pN n l a) 61 0
theorem dN {n:Network} (hn:NetOk n):Find (.I_nextOf_1 n) n (fN n):=by
 refine⟨fun l a=>?_,fun{l a d} h=>?_⟩
 ·show I_nextOf_1 G.real TE.real l a n=_
  unfold I_nextOf_1
  rw[FV hn,ae]
  rfl
 ·obtain⟨h1,_,_⟩:=qB h
  unfold pN at h1
  simpa using h1
end Go.Vs
