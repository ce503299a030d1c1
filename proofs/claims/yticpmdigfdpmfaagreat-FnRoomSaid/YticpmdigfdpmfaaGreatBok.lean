/- Part of the proofs of this seat's laws: Bok. No condition. -/
import Derived.Test.YticpmdigfdpmfaaGreatNet
import Derived.Test.YticpmdigfdpmfaaGreatLad
import Derived.Test.YticpmdigfdpmfaaGreatLac
import Derived.Test.YticpmdigfdpmfaaGreatLaa
import Derived.Test.YticpmdigfdpmfaaGreatLab
set_option linter.unusedVariables false
set_option linter.unusedSimpArgs false
set_option linter.unusedSectionVars false
namespace Go.Vs
open Go.IntWalk
theorem tj (t:Trip):∀(l:List Booking) (v:Int),c6 G.real TE.real t l v=bQ G.real TE.real t l v
 |[],v=>by rw[c6,bQ]
 |z::l,v=>by rw[c6,bQ,tj t l,tj t l]
theorem AE (l:List Booking) (t:Trip):iY G.real TE.real l t=cA G.real TE.real l t:=by
 unfold iY cA
 rw[tj]
def beB (a b:Booking):Bool:=if a.Trip.Day=b.Trip.Day then(if a.Trip.Leg=b.Trip.Leg then decide (a.Thing<b.Thing) else decide (a.Trip.Leg<b.Trip.Leg)) else decide (a.Trip.Day<b.Trip.Day)
theorem be_s (a b:Booking):fv G.real TE.real a b=beB a b:=by
 unfold fv beB
 simp only[ib,cP,ao]
theorem be_i (a b:Booking):ba G.real TE.real a b=if beB a b=true then-1 else if a.Trip.Day=b.Trip.Day∧a.Trip.Leg=b.Trip.Leg∧a.Thing=b.Thing then 0 else 1:=by
 unfold ba beB
 simp only[aP,xE,uy,nn,oX]
 by_cases h1:a.Trip.Day=b.Trip.Day
 ·by_cases h2:a.Trip.Leg=b.Trip.Leg
  ·by_cases h3:a.Thing=b.Thing
   ·simp[h1,h2,h3]
   ·by_cases h4:a.Thing<b.Thing
    ·simp[h1,h2,h3,h4]
    ·have:b.Thing<a.Thing:=by omega
     simp[h1,h2,h3,h4,this]
  ·by_cases h4:a.Trip.Leg<b.Trip.Leg
   ·simp[h1,h2,h4]
   ·have:b.Trip.Leg<a.Trip.Leg:=by omega
    simp[h1,h2,h4,this]
 ·by_cases h4:a.Trip.Day<b.Trip.Day
  ·simp[h1,h4]
  ·have:b.Trip.Day<a.Trip.Day:=by omega
   simp[h1,h4,this]
theorem v7 (a b:Booking):(0:Int)≤ba G.real TE.real a b↔beB a b=false:=by
 rw[be_i]
 cases beB a b with
 |true=>simp
 |false=>simp;split<;>omega
def prB (l:List Booking) (k:Nat) (z:Booking):Bool:=match k with|0=>true|j+1=>match l[j]? with|some x=>beB x z|none=>true
def bk1 (n:Network) (l:List Booking) (k:Nat) (z:Booking):Bool:=
 prB l k z&&(runsB n z.Trip.Leg z.Trip.Day&&(decide (1≤z.Thing∧z.Thing≤9999)&&decide (1≤z.Weight∧z.Weight≤1000000)))
def bkA (n:Network) (l:List Booking):List Booking→Nat→Bool
 |[],_=>true
 |z::ls,k=>bk1 n l k z&&bkA n l ls (k+1)
def bkW (n:Network) (l:List Booking) (z:Booking):Bool:=decide (cA G.real TE.real l z.Trip≤(lgOf n z.Trip.Leg).Room)
theorem CK {n:Network} (hn:n.Legs.length≤1048576) (l:List Booking) (hl:l.length≤120):∀(ls:List Booking) (k:Nat),l.drop k=ls→
 bf G.real TE.real n l ls (k:Int)=some (if bkA n l ls k=true then .out () else .ret false)
 |[],k,_=>by rw[bf,bkA];rfl
 |z::ls,k,hd=>by
  have hk:k<l.length:=by
   have:=congrArg List.length hd
   simp at this;omega
  have hd2:l.drop (k+1)=ls:=by
   have:=congrArg List.tail hd
   simpa using this
  rw[bf,bkA,bk1,wb hn,af]
  simp only[aP,nK,cP,bR,i5,cw,be_s]
  rw[w64 (n:=(k:Int)+1) (by omega) (by omega),w64 (n:=(k:Int)-1) (by omega) (by omega),show(k:Int)+1=((k+1:Nat):Int) from by omega,CK hn l hl ls (k+1) hd2]
  cases runsB n z.Trip.Leg z.Trip.Day with
  |false=>simp
  |true=>
   simp only[ao,dK,Bool.true_and]
   by_cases h1:1≤z.Thing∧z.Thing≤9999
   ·rw[if_pos h1,decide_eq_true h1,Bool.true_and]
    by_cases h2:1≤z.Weight∧z.Weight≤1000000
    ·rw[if_pos h2,decide_eq_true h2,Bool.and_true]
     cases k with
     |zero=>rw[if_neg (by omega)];simp[prB]
     |succ j=>
      have hj:l[Int.toNat (((j+1:Nat):Int)-1)]?=some (l[j]'(by omega)):=by
       rw[show(((j+1:Nat):Int)-1)=((j:Nat):Int) from by omega,Int.toNat_natCast]
       exact List.getElem?_eq_getElem (by omega)
      rw[if_pos (by omega),aj (by omega),ax hj]
      rw[show prB l (j+1) z=beB (l[j]'(by omega)) z from by
       show(match l[j]? with|some x=>beB x z|none=>true)=_
       rw[List.getElem?_eq_getElem (by omega)]]
      rw[show(Booking.mk (l[j]'(by omega)).Thing (Trip.mk (l[j]'(by omega)).Trip.Leg (l[j]'(by omega)).Trip.Day) (l[j]'(by omega)).Weight)=l[j]'(by omega) from rfl]
      cases beB (l[j]'(by omega)) z with
      |true=>rw[dK,Bool.true_and]
      |false=>rw[mb,Bool.false_and];rfl
    ·rw[if_neg h2,decide_eq_false h2,Bool.and_false,Bool.false_and];rfl
   ·rw[if_neg h1,decide_eq_false h1,Bool.false_and,Bool.and_false,Bool.false_and];rfl
theorem wQ {n:Network} {l:List Booking} (hn:n.Legs.length≤1048576):∀{ls:List Booking} {k:Nat},bkA n l ls k=true→∀z∈ls,0≤z.Trip.Leg∧z.Trip.Leg<n.Legs.length
 |z::ls,k,h,y,hy=>by
  unfold bkA bk1 at h
  simp only[Bool.and_eq_true] at h
  rcases List.mem_cons.1 hy with rfl|hy
  ·have:=cV hn h.1.2.1;omega
  ·exact wQ hn h.2 y hy
theorem CS {n:Network} (l:List Booking):∀(ls:List Booking),(∀z∈ls,0≤z.Trip.Leg∧z.Trip.Leg<n.Legs.length)→
 bz G.real TE.real n l ls=some (if ls.all (bkW n l)=true then .out () else .ret false)
 |[],_=>by rw[bz];rfl
 |z::ls,h=>by
  have hz:=h z (by simp)
  rw[bz,CS l ls (fun y hy=>h y (by simp[hy]))]
  simp only[aP,AE,cw,cP,ao]
  rw[aj hz.1,ax (d9 hz.1 hz.2),List.all_cons]
  unfold bkW
  rw[show(Trip.mk z.Trip.Leg z.Trip.Day)=z.Trip from rfl]
  by_cases hc:cA G.real TE.real l z.Trip≤(lgOf n z.Trip.Leg).Room
  ·rw[if_neg (by omega),decide_eq_true hc,Bool.true_and]
  ·rw[if_pos (by omega),decide_eq_false hc,Bool.false_and];rfl
def bkB (n:Network) (l:List Booking):Bool:=netB n&&(decide (l.length≤120)&&(bkA n l l 0&&l.all (bkW n l)))
theorem C1 {n:Network} (ht:n.tot≤1048576) (l:List Booking) (hl:l.length≤1048576):dq G.real TE.real n l=some (bkB n l):=by
 have hn:=jM ht
 unfold dq bkB
 rw[FN ht,af]
 cases netB n with
 |false=>rfl
 |true=>
  rw[dK,Bool.true_and,jP rfl rfl,cP,ao]
  by_cases h:l.length≤120
  ·rw[if_neg (by omega),decide_eq_true h,Bool.true_and,show(0:Int)=((0:Nat):Int) from rfl,CK hn l h l 0 (by simp),af]
   cases ha:bkA n l l 0 with
   |false=>rfl
   |true=>
    rw[if_pos rfl,kJ,CS l l (wQ hn ha),af,Bool.true_and]
    cases l.all (bkW n l)<;>rfl
  ·rw[if_pos (by omega),decide_eq_false h,Bool.false_and]
theorem CN {n:Network} (ht:n.tot≤1048576) (hb:netB n=true) (l:List Booking) (hl:l.length≤120):∀(ls:List Booking) (k:Nat),l.drop k=ls→
 bj G.real TE.real n l ls (k:Int)=some (if(bkA n l ls k&&ls.all (bkW n l))=true then .out () else .ret false)
 |[],k,_=>by rw[bj,bkA];rfl
 |z::ls,k,hd=>by
  have hn:=jM ht
  have hk:k<l.length:=by
   have:=congrArg List.length hd
   simp at this;omega
  have hd2:l.drop (k+1)=ls:=by
   have:=congrArg List.tail hd
   simpa using this
  rw[bj,bkA,bk1,sZ ht,af]
  simp only[aP,ky,cP,nm,bR,i5,cw]
  rw[w64 (n:=(k:Int)+1) (by omega) (by omega),w64 (n:=(k:Int)-1) (by omega) (by omega),show(k:Int)+1=((k+1:Nat):Int) from by omega,CN ht hb l hl ls (k+1) hd2]
  rw[show lA n (Trip.mk z.Trip.Leg z.Trip.Day)=runsB n z.Trip.Leg z.Trip.Day from by unfold lA;rw[hb,Bool.true_and]]
  have core:∀pb:Bool,(if pb=true then
   (br (runsB n z.Trip.Leg z.Trip.Day) (br (decide (1≤z.Thing∧z.Thing≤9999)) (br (decide (1≤z.Weight∧z.Weight≤1000000))
    (gd ((0:Int)≤z.Trip.Leg)<|gt n.Legs z.Trip.Leg.toNat fun x8=>br (decide (x8.Room<cA G.real TE.real l (Trip.mk z.Trip.Leg z.Trip.Day))) (some (LR.ret false))
     (some (if(bkA n l ls (k+1)&&ls.all (bkW n l))=true then LR.out () else LR.ret false)))
    (some (LR.ret false))) (some (LR.ret false))) (some (LR.ret false)))
   else some (LR.ret false))=
   some (if((pb&&(runsB n z.Trip.Leg z.Trip.Day&&(decide (1≤z.Thing∧z.Thing≤9999)&&decide (1≤z.Weight∧z.Weight≤1000000)))&&bkA n l ls (k+1))&&(z::ls).all (bkW n l))=true then LR.out () else LR.ret false):=by
   intro pb
   cases pb with
   |false=>rfl
   |true=>
    rw[if_pos rfl,Bool.true_and]
    cases hr:runsB n z.Trip.Leg z.Trip.Day with
    |false=>rfl
    |true=>
     obtain⟨r1,r2,r3,r4⟩:=cV hn hr
     rw[dK,Bool.true_and,ao,ao]
     by_cases h1:1≤z.Thing∧z.Thing≤9999
     ·rw[if_pos h1,decide_eq_true h1,Bool.true_and]
      by_cases h2:1≤z.Weight∧z.Weight≤1000000
      ·rw[if_pos h2,decide_eq_true h2,Bool.true_and,aj r1,ax (d9 r1 r2),List.all_cons,ao]
       have hw:bkW n l z=decide (cA G.real TE.real l (Trip.mk z.Trip.Leg z.Trip.Day)≤(lgOf n z.Trip.Leg).Room):=rfl
       rw[hw]
       by_cases hc:cA G.real TE.real l (Trip.mk z.Trip.Leg z.Trip.Day)≤(lgOf n z.Trip.Leg).Room
       ·rw[if_neg (by omega),decide_eq_true hc,Bool.true_and]
       ·rw[if_pos (by omega),decide_eq_false hc,Bool.false_and,Bool.and_false];rfl
      ·rw[if_neg h2,decide_eq_false h2];simp
     ·rw[if_neg h1,decide_eq_false h1];simp
  cases k with
  |zero=>
   rw[ao,if_neg (by omega)]
   have:=core true
   rw[if_pos rfl] at this
   exact this
  |succ j=>
   have hj:l[Int.toNat (((j+1:Nat):Int)-1)]?=some (l[j]'(by omega)):=by
    rw[show(((j+1:Nat):Int)-1)=((j:Nat):Int) from by omega,Int.toNat_natCast]
    exact List.getElem?_eq_getElem (by omega)
   rw[ao,if_pos (by omega),aj (by omega),ax hj]
   rw[show prB l (j+1) z=beB (l[j]'(by omega)) z from by
    show(match l[j]? with|some x=>beB x z|none=>true)=_
    rw[List.getElem?_eq_getElem (by omega)]]
   rw[show(Booking.mk (l[j]'(by omega)).Thing (Trip.mk (l[j]'(by omega)).Trip.Leg (l[j]'(by omega)).Trip.Day) (l[j]'(by omega)).Weight)=l[j]'(by omega) from rfl,show(Booking.mk z.Thing (Trip.mk z.Trip.Leg z.Trip.Day) z.Weight)=z from rfl]
   have:=core (beB (l[j]'(by omega)) z)
   rw[←this]
   cases hbe:beB (l[j]'(by omega)) z with
   |true=>
    rw[ao,if_neg (by rw[v7,hbe];simp),if_pos rfl]
   |false=>
    rw[ao,if_pos ((v7 _ _).2 hbe),if_neg (by simp)]
theorem Bp {n:Network} (ht:n.tot≤1048576) (l:List Booking) (hl:l.length≤1048576):bF G.real TE.real n l=some (bkB n l):=by
 unfold bF bkB
 rw[sz ht,af]
 cases hb:netB n with
 |false=>rfl
 |true=>
  rw[dK,Bool.true_and,jP rfl rfl,cP,ao]
  by_cases h:l.length≤120
  ·rw[if_neg (by omega),decide_eq_true h,Bool.true_and,show(0:Int)=((0:Nat):Int) from rfl,CN ht hb l h l 0 (by simp),af]
   cases (bkA n l l 0&&l.all (bkW n l))<;>rfl
  ·rw[if_pos (by omega),decide_eq_false h,Bool.false_and]
end Go.Vs
namespace Go.Vs
open Go.IntWalk
theorem w9 (t:Trip):∀(l:List Trip),cG G.real TE.real t l=bO G.real TE.real t l
 |[]=>by rw[cG,bO]
 |z::l=>by rw[cG,bO,w9 t l]
theorem DC (l:List Trip) (t:Trip):hO G.real TE.real l t=I_hasTrip G.real TE.real l t:=by
 unfold hO I_hasTrip
 rw[w9]
def rmN (n:Network) (l:List Booking) (leg d:Int):Int:=G.real.wrap .i64 (G.real.sub (lgOf n leg).Room (cA G.real TE.real l ⟨leg,d⟩))
def pF (n:Network) (c:List Trip) (l:List Booking) (w leg at_:Int) (d:Int):Bool:=
 pN n leg at_ d&&(!I_hasTrip G.real TE.real c ⟨leg,d⟩&&decide (w≤rmN n l leg d))
theorem xA {n:Network} (hn:NetOk n) {c:List Trip} {b:List Booking} {w:Int} {l:Int} (at_:Int):∀(m:Nat) (v:Int),0≤v→v+m≤1000→bt G.real TE.real l at_ n c b w m v=some (match fdD (pF n c b w l at_) m v with|some d=>.ret (⟨l,d⟩,true)|none=>.out ())
 |0,v,_,_=>by rw[bt,fdD]
 |m+1,v,h0,h1=>by
  have hl:n.Legs.length≤1048576:=by have:=hn.len;omega
  rw[bt,fdD,vO hl]
  simp only[af,bR,nm,ao,aP]
  rw[w64 (by omega) (by omega),xA hn at_ m (v+1) (by omega) (by omega)]
  unfold pF pN
  cases hr:runsB n l v with
  |false=>rfl
  |true=>
   obtain⟨r1,r2,r3,r4⟩:=cV hl hr
   rw[dK,pm hn r1 r2 r3 r4,af]
   by_cases hc:at_≤stN n l v
   ·rw[if_pos hc,decide_eq_true hc,Bool.true_and,Bool.true_and]
    cases I_hasTrip G.real TE.real c ⟨l,v⟩ with
    |true=>rfl
    |false=>
     rw[mb,aj r1,cw,ax (d9 r1 r2),Bool.not_false,Bool.true_and]
     by_cases hw:w≤rmN n b l v
     ·rw[if_pos (by exact hw),decide_eq_true hw];rfl
     ·rw[if_neg (by exact hw),decide_eq_false hw];rfl
   ·rw[if_neg hc,decide_eq_false hc];rfl
theorem xU {n:Network} (hn:NetOk n) {c:List Trip} {b:List Booking} {w:Int} {l:Int} (at_:Int):∀(m:Nat) (v:Int),0≤v→v+m≤1000→ci G.real TE.real n b c l at_ w m v=some (match fdD (pF n c b w l at_) m v with|some d=>.ret d|none=>.out ())
 |0,v,_,_=>by rw[ci,fdD]
 |m+1,v,h0,h1=>by
  have hl:n.Legs.length≤1048576:=by have:=hn.len;omega
  rw[ci,fdD,wb hl]
  simp only[af,bR,nm,ao,aP,DC,AE]
  rw[w64 (by omega) (by omega),xU hn at_ m (v+1) (by omega) (by omega)]
  unfold pF pN
  cases hr:runsB n l v with
  |false=>rfl
  |true=>
   obtain⟨r1,r2,r3,r4⟩:=cV hl hr
   rw[dK,wY hn r1 r2 r3 r4,af]
   by_cases hc:at_≤stN n l v
   ·rw[if_pos hc,decide_eq_true hc,Bool.true_and,Bool.true_and]
    cases I_hasTrip G.real TE.real c ⟨l,v⟩ with
    |true=>rfl
    |false=>
     rw[mb,aj r1,cw,ax (d9 r1 r2),Bool.not_false,Bool.true_and]
     by_cases hw:w≤rmN n b l v
     ·rw[if_pos (by exact hw),decide_eq_true hw];rfl
     ·rw[if_neg (by exact hw),decide_eq_false hw];rfl
   ·rw[if_neg hc,decide_eq_false hc];rfl
def fF (n:Network) (c:List Trip) (b:List Booking) (w l a:Int):Option Int:=fdD (pF n c b w l a) 61 0
theorem Aa {n:Network} (hn:NetOk n) (c:List Trip) (b:List Booking) (w l at_:Int):iS G.real TE.real n b c l at_ w=some (dyO (fF n c b w l at_)):=by
 unfold iS fF
 rw[show cX 0 60=61 from rfl,xU hn at_ 61 0 (by omega) (by omega),af]
 cases fdD (pF n c b w l at_) 61 0<;>rfl
theorem gf {n:Network} (hn:NetOk n) (c:List Trip) (b:List Booking) (w:Int):Find (.I_freeOf_1 n c b w) n (fF n c b w):=by
 refine⟨fun l a=>?_,fun{l a d} h=>?_⟩
 ·show I_freeOf_1 G.real TE.real l a n c b w=_
  unfold I_freeOf_1 fF
  rw[show cX 0 60=61 from rfl,xA hn a 61 0 (by omega) (by omega),af]
  cases fdD (pF n c b w l a) 61 0<;>rfl
 ·obtain⟨h1,_,_⟩:=m8 h
  unfold pF pN at h1
  simp only[Bool.and_eq_true,decide_eq_true_eq] at h1
  exact h1.1
end Go.Vs
