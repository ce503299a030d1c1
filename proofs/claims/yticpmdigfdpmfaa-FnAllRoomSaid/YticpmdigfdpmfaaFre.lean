/- Part of the proofs of this seat's laws: Fre. No condition. -/
import Derived.Test.YticpmdigfdpmfaaNet
import Derived.Test.YticpmdigfdpmfaaLac
import Derived.Test.YticpmdigfdpmfaaLaa
import Derived.Test.YticpmdigfdpmfaaLab
import Derived.Test.YticpmdigfdpmfaaWays
set_option linter.unusedVariables false
set_option linter.unusedSimpArgs false
set_option linter.unusedSectionVars false
namespace Go.Vs
open Go.IntWalk
theorem qP (t:Trip):∀(l:List Booking) (v:Int),cF G.real TE.real t l v=cQ G.real TE.real t l v
 |[],v=>by rw[cF,cQ]
 |z::l,v=>by rw[cF,cQ,qP t l,qP t l]
theorem xW (l:List Booking) (t:Trip):ii G.real TE.real l t=cI G.real TE.real l t:=by
 unfold ii cI
 rw[qP]
def beB (a b:Booking):Bool:=if a.Trip.Day=b.Trip.Day then(if a.Trip.Leg=b.Trip.Leg then decide (a.Thing<b.Thing) else decide (a.Trip.Leg<b.Trip.Leg)) else decide (a.Trip.Day<b.Trip.Day)
theorem be_s (a b:Booking):eu G.real TE.real a b=beB a b:=by
 unfold eu beB
 simp only[gR,df,am]
theorem be_i (a b:Booking):bT G.real TE.real a b=if beB a b=true then-1 else if a.Trip.Day=b.Trip.Day∧a.Trip.Leg=b.Trip.Leg∧a.Thing=b.Thing then 0 else 1:=by
 unfold bT beB
 simp only[aZ,y8,wY,nM,Ak]
 by_cases h1:a.Trip.Day=b.Trip.Day
 ·by_cases h2:a.Trip.Leg=b.Trip.Leg
  ·by_cases h3:a.Thing=b.Thing
   ·simp[h1,h2,h3]
   ·by_cases h4:a.Thing<b.Thing
    ·simp[h1,h2,h3,h4]
    ·have:b.Thing<a.Thing:=by omega
     simp[h1,h2,h3,h4,this]
  ·by_cases h4:a.Trip.Leg<b.Trip.Leg
   ·simp[h1,h2,h4]
   ·have:b.Trip.Leg<a.Trip.Leg:=by omega
    simp[h1,h2,h4,this]
 ·by_cases h4:a.Trip.Day<b.Trip.Day
  ·simp[h1,h4]
  ·have:b.Trip.Day<a.Trip.Day:=by omega
   simp[h1,h4,this]
theorem yv (a b:Booking):(0:Int)≤bT G.real TE.real a b↔beB a b=false:=by
 rw[be_i]
 cases beB a b with
 |true=>simp
 |false=>simp;split<;>omega
def prB (l:List Booking) (k:Nat) (z:Booking):Bool:=match k with|0=>true|j+1=>match l[j]? with|some x=>beB x z|none=>true
def bk1 (n:Network) (l:List Booking) (k:Nat) (z:Booking):Bool:=
 prB l k z&&(runsB n z.Trip.Leg z.Trip.Day&&(decide (1≤z.Thing∧z.Thing≤9999)&&decide (1≤z.Weight∧z.Weight≤1000000)))
def bkA (n:Network) (l:List Booking):List Booking→Nat→Bool
 |[],_=>true
 |z::ls,k=>bk1 n l k z&&bkA n l ls (k+1)
def bkW (n:Network) (l:List Booking) (z:Booking):Bool:=decide (cI G.real TE.real l z.Trip≤(dW n z.Trip.Leg).Room)
theorem zI {n:Network} (hn:n.Legs.length≤1048576) (l:List Booking) (hl:l.length≤120):∀(ls:List Booking) (k:Nat),l.drop k=ls→
 aW G.real TE.real n l ls (k:Int)=some (if bkA n l ls k=true then .out () else .ret false)
 |[],k,_=>by rw[aW,bkA];rfl
 |z::ls,k,hd=>by
  have hk:k<l.length:=by
   have:=congrArg List.length hd
   simp at this;omega
  have hd2:l.drop (k+1)=ls:=by
   have:=congrArg List.tail hd
   simpa using this
  rw[aW,bkA,bk1,tR hn,ag]
  simp only[aZ,my,df,bG,ir,cw,be_s]
  rw[w64 (n:=(k:Int)+1) (by omega) (by omega),w64 (n:=(k:Int)-1) (by omega) (by omega),show(k:Int)+1=((k+1:Nat):Int) from by omega,zI hn l hl ls (k+1) hd2]
  cases runsB n z.Trip.Leg z.Trip.Day with
  |false=>simp
  |true=>
   simp only[am,fr,Bool.true_and]
   by_cases h1:1≤z.Thing∧z.Thing≤9999
   ·rw[if_pos h1,decide_eq_true h1,Bool.true_and]
    by_cases h2:1≤z.Weight∧z.Weight≤1000000
    ·rw[if_pos h2,decide_eq_true h2,Bool.and_true]
     cases k with
     |zero=>rw[if_neg (by omega)];simp[prB]
     |succ j=>
      have hj:l[Int.toNat (((j+1:Nat):Int)-1)]?=some (l[j]'(by omega)):=by
       rw[show(((j+1:Nat):Int)-1)=((j:Nat):Int) from by omega,Int.toNat_natCast]
       exact List.getElem?_eq_getElem (by omega)
      rw[if_pos (by omega),ah (by omega),ar hj]
      rw[show prB l (j+1) z=beB (l[j]'(by omega)) z from by
       show(match l[j]? with|some x=>beB x z|none=>true)=_
       rw[List.getElem?_eq_getElem (by omega)]]
      rw[show(Booking.mk (l[j]'(by omega)).Thing (Trip.mk (l[j]'(by omega)).Trip.Leg (l[j]'(by omega)).Trip.Day) (l[j]'(by omega)).Weight)=l[j]'(by omega) from rfl]
      cases beB (l[j]'(by omega)) z with
      |true=>rw[fr,Bool.true_and]
      |false=>rw[oa,Bool.false_and];rfl
    ·rw[if_neg h2,decide_eq_false h2,Bool.and_false,Bool.false_and];rfl
   ·rw[if_neg h1,decide_eq_false h1,Bool.false_and,Bool.and_false,Bool.false_and];rfl
theorem ui {n:Network} {l:List Booking} (hn:n.Legs.length≤1048576):∀{ls:List Booking} {k:Nat},bkA n l ls k=true→∀z∈ls,0≤z.Trip.Leg∧z.Trip.Leg<n.Legs.length
 |z::ls,k,h,y,hy=>by
  unfold bkA bk1 at h
  simp only[Bool.and_eq_true] at h
  rcases List.mem_cons.1 hy with rfl|hy
  ·have:=ee hn h.1.2.1;omega
  ·exact ui hn h.2 y hy
theorem zK {n:Network} (l:List Booking):∀(ls:List Booking),(∀z∈ls,0≤z.Trip.Leg∧z.Trip.Leg<n.Legs.length)→
 bk G.real TE.real n l ls=some (if ls.all (bkW n l)=true then .out () else .ret false)
 |[],_=>by rw[bk];rfl
 |z::ls,h=>by
  have hz:=h z (by simp)
  rw[bk,zK l ls (fun y hy=>h y (by simp[hy]))]
  simp only[aZ,xW,cw,df,am]
  rw[ah hz.1,ar (eX hz.1 hz.2),List.all_cons]
  unfold bkW
  rw[show(Trip.mk z.Trip.Leg z.Trip.Day)=z.Trip from rfl]
  by_cases hc:cI G.real TE.real l z.Trip≤(dW n z.Trip.Leg).Room
  ·rw[if_neg (by omega),decide_eq_true hc,Bool.true_and]
  ·rw[if_pos (by omega),decide_eq_false hc,Bool.false_and];rfl
def bkB (n:Network) (l:List Booking):Bool:=jx n&&(decide (l.length≤120)&&(bkA n l l 0&&l.all (bkW n l)))
theorem AE {n:Network} (ht:n.tot≤1048576) (l:List Booking) (hl:l.length≤1048576):cV G.real TE.real n l=some (bkB n l):=by
 have hn:=kZ ht
 unfold cV bkB
 rw[Bb ht,ag]
 cases jx n with
 |false=>rfl
 |true=>
  rw[fr,Bool.true_and,iM rfl rfl,df,am]
  by_cases h:l.length≤120
  ·rw[if_neg (by omega),decide_eq_true h,Bool.true_and,show(0:Int)=((0:Nat):Int) from rfl,zI hn l h l 0 (by simp),ag]
   cases ha:bkA n l l 0 with
   |false=>rfl
   |true=>
    rw[if_pos rfl,iI,zK l l (ui hn ha),ag,Bool.true_and]
    cases l.all (bkW n l)<;>rfl
  ·rw[if_pos (by omega),decide_eq_false h,Bool.false_and]
theorem zP {n:Network} (ht:n.tot≤1048576) (hb:jx n=true) (l:List Booking) (hl:l.length≤120):∀(ls:List Booking) (k:Nat),l.drop k=ls→
 aY G.real TE.real n l ls (k:Int)=some (if(bkA n l ls k&&ls.all (bkW n l))=true then .out () else .ret false)
 |[],k,_=>by rw[aY,bkA];rfl
 |z::ls,k,hd=>by
  have hn:=kZ ht
  have hk:k<l.length:=by
   have:=congrArg List.length hd
   simp at this;omega
  have hd2:l.drop (k+1)=ls:=by
   have:=congrArg List.tail hd
   simpa using this
  rw[aY,bkA,bk1,z7 ht,ag]
  simp only[aZ,jt,df,nt,bG,ir,cw]
  rw[w64 (n:=(k:Int)+1) (by omega) (by omega),w64 (n:=(k:Int)-1) (by omega) (by omega),show(k:Int)+1=((k+1:Nat):Int) from by omega,zP ht hb l hl ls (k+1) hd2]
  rw[show ut n (Trip.mk z.Trip.Leg z.Trip.Day)=runsB n z.Trip.Leg z.Trip.Day from by unfold ut;rw[hb,Bool.true_and]]
  have core:∀pb:Bool,(if pb=true then
   (br (runsB n z.Trip.Leg z.Trip.Day) (br (decide (1≤z.Thing∧z.Thing≤9999)) (br (decide (1≤z.Weight∧z.Weight≤1000000))
    (gd ((0:Int)≤z.Trip.Leg)<|gt n.Legs z.Trip.Leg.toNat fun x8=>br (decide (x8.Room<cI G.real TE.real l (Trip.mk z.Trip.Leg z.Trip.Day))) (some (LR.ret false))
     (some (if(bkA n l ls (k+1)&&ls.all (bkW n l))=true then LR.out () else LR.ret false)))
    (some (LR.ret false))) (some (LR.ret false))) (some (LR.ret false)))
   else some (LR.ret false))=
   some (if((pb&&(runsB n z.Trip.Leg z.Trip.Day&&(decide (1≤z.Thing∧z.Thing≤9999)&&decide (1≤z.Weight∧z.Weight≤1000000)))&&bkA n l ls (k+1))&&(z::ls).all (bkW n l))=true then LR.out () else LR.ret false):=by
   intro pb
   cases pb with
   |false=>rfl
   |true=>
    rw[if_pos rfl,Bool.true_and]
    cases hr:runsB n z.Trip.Leg z.Trip.Day with
    |false=>rfl
    |true=>
     obtain⟨r1,r2,r3,r4⟩:=ee hn hr
     rw[fr,Bool.true_and,am,am]
     by_cases h1:1≤z.Thing∧z.Thing≤9999
     ·rw[if_pos h1,decide_eq_true h1,Bool.true_and]
      by_cases h2:1≤z.Weight∧z.Weight≤1000000
      ·rw[if_pos h2,decide_eq_true h2,Bool.true_and,ah r1,ar (eX r1 r2),List.all_cons,am]
       have hw:bkW n l z=decide (cI G.real TE.real l (Trip.mk z.Trip.Leg z.Trip.Day)≤(dW n z.Trip.Leg).Room):=rfl
       rw[hw]
       by_cases hc:cI G.real TE.real l (Trip.mk z.Trip.Leg z.Trip.Day)≤(dW n z.Trip.Leg).Room
       ·rw[if_neg (by omega),decide_eq_true hc,Bool.true_and]
       ·rw[if_pos (by omega),decide_eq_false hc,Bool.false_and,Bool.and_false];rfl
      ·rw[if_neg h2,decide_eq_false h2];simp
     ·rw[if_neg h1,decide_eq_false h1];simp
  cases k with
  |zero=>
   rw[am,if_neg (by omega)]
   have:=core true
   rw[if_pos rfl] at this
   exact this
  |succ j=>
   have hj:l[Int.toNat (((j+1:Nat):Int)-1)]?=some (l[j]'(by omega)):=by
    rw[show(((j+1:Nat):Int)-1)=((j:Nat):Int) from by omega,Int.toNat_natCast]
    exact List.getElem?_eq_getElem (by omega)
   rw[am,if_pos (by omega),ah (by omega),ar hj]
   rw[show prB l (j+1) z=beB (l[j]'(by omega)) z from by
    show(match l[j]? with|some x=>beB x z|none=>true)=_
    rw[List.getElem?_eq_getElem (by omega)]]
   rw[show(Booking.mk (l[j]'(by omega)).Thing (Trip.mk (l[j]'(by omega)).Trip.Leg (l[j]'(by omega)).Trip.Day) (l[j]'(by omega)).Weight)=l[j]'(by omega) from rfl,show(Booking.mk z.Thing (Trip.mk z.Trip.Leg z.Trip.Day) z.Weight)=z from rfl]
   have:=core (beB (l[j]'(by omega)) z)
   rw[←this]
   cases hbe:beB (l[j]'(by omega)) z with
   |true=>
    rw[am,if_neg (by rw[yv,hbe];simp),if_pos rfl]
   |false=>
    rw[am,if_pos ((yv _ _).2 hbe),if_neg (by simp)]
theorem A9 {n:Network} (ht:n.tot≤1048576) (l:List Booking) (hl:l.length≤1048576):ec G.real TE.real n l=some (bkB n l):=by
 unfold ec bkB
 rw[ym ht,ag]
 cases hb:jx n with
 |false=>rfl
 |true=>
  rw[fr,Bool.true_and,iM rfl rfl,df,am]
  by_cases h:l.length≤120
  ·rw[if_neg (by omega),decide_eq_true h,Bool.true_and,show(0:Int)=((0:Nat):Int) from rfl,zP ht hb l h l 0 (by simp),ag]
   cases (bkA n l l 0&&l.all (bkW n l))<;>rfl
  ·rw[if_pos (by omega),decide_eq_false h,Bool.false_and]
end Go.Vs
namespace Go.Vs
open Go.IntWalk
theorem uA (t:Trip):∀(l:List Trip),cd G.real TE.real t l=cO G.real TE.real t l
 |[]=>by rw[cd,cO]
 |z::l=>by rw[cd,cO,uA t l]
theorem z9 (l:List Trip) (t:Trip):gz G.real TE.real l t=d5 G.real TE.real l t:=by
 unfold gz d5
 rw[uA]
def rmN (n:Network) (l:List Booking) (leg d:Int):Int:=G.real.wrap .i64 (G.real.sub (dW n leg).Room (cI G.real TE.real l ⟨leg,d⟩))
def pF (n:Network) (c:List Trip) (l:List Booking) (w leg at_:Int) (d:Int):Bool:=
 pN n leg at_ d&&(!d5 G.real TE.real c ⟨leg,d⟩&&decide (w≤rmN n l leg d))
theorem uC {n:Network} (hn:NetOk n) {c:List Trip} {b:List Booking} {w:Int} {l:Int} (at_:Int):∀(m:Nat) (v:Int),0≤v→v+m≤1000→bd G.real TE.real l at_ n c b w m v=some (match fdD (pF n c b w l at_) m v with|some d=>.ret (⟨l,d⟩,true)|none=>.out ())
 |0,v,_,_=>by rw[bd,fdD]
 |m+1,v,h0,h1=>by
  have hl:n.Legs.length≤1048576:=by have:=hn.len;omega
  rw[bd,fdD,tN hl]
  simp only[ag,bG,nt,am,aZ]
  rw[w64 (by omega) (by omega),uC hn at_ m (v+1) (by omega) (by omega)]
  unfold pF pN
  cases hr:runsB n l v with
  |false=>rfl
  |true=>
   obtain⟨r1,r2,r3,r4⟩:=ee hl hr
   rw[fr,rb hn r1 r2 r3 r4,ag]
   by_cases hc:at_≤stN n l v
   ·rw[if_pos hc,decide_eq_true hc,Bool.true_and,Bool.true_and]
    cases d5 G.real TE.real c ⟨l,v⟩ with
    |true=>rfl
    |false=>
     rw[oa,ah r1,cw,ar (eX r1 r2),Bool.not_false,Bool.true_and]
     by_cases hw:w≤rmN n b l v
     ·rw[if_pos (by exact hw),decide_eq_true hw];rfl
     ·rw[if_neg (by exact hw),decide_eq_false hw];rfl
   ·rw[if_neg hc,decide_eq_false hc];rfl
theorem uE {n:Network} (hn:NetOk n) {c:List Trip} {b:List Booking} {w:Int} {l:Int} (at_:Int):∀(m:Nat) (v:Int),0≤v→v+m≤1000→bN G.real TE.real n b c l at_ w m v=some (match fdD (pF n c b w l at_) m v with|some d=>.ret d|none=>.out ())
 |0,v,_,_=>by rw[bN,fdD]
 |m+1,v,h0,h1=>by
  have hl:n.Legs.length≤1048576:=by have:=hn.len;omega
  rw[bN,fdD,tR hl]
  simp only[ag,bG,nt,am,aZ,z9,xW]
  rw[w64 (by omega) (by omega),uE hn at_ m (v+1) (by omega) (by omega)]
  unfold pF pN
  cases hr:runsB n l v with
  |false=>rfl
  |true=>
   obtain⟨r1,r2,r3,r4⟩:=ee hl hr
   rw[fr,uJ hn r1 r2 r3 r4,ag]
   by_cases hc:at_≤stN n l v
   ·rw[if_pos hc,decide_eq_true hc,Bool.true_and,Bool.true_and]
    cases d5 G.real TE.real c ⟨l,v⟩ with
    |true=>rfl
    |false=>
     rw[oa,ah r1,cw,ar (eX r1 r2),Bool.not_false,Bool.true_and]
     by_cases hw:w≤rmN n b l v
     ·rw[if_pos (by exact hw),decide_eq_true hw];rfl
     ·rw[if_neg (by exact hw),decide_eq_false hw];rfl
   ·rw[if_neg hc,decide_eq_false hc];rfl
def fF (n:Network) (c:List Trip) (b:List Booking) (w l a:Int):Option Int:=fdD (pF n c b w l a) 61 0
theorem xA {n:Network} (hn:NetOk n) (c:List Trip) (b:List Booking) (w l at_:Int):hC G.real TE.real n b c l at_ w=some (dyO (fF n c b w l at_)):=by
 unfold hC fF
 rw[show ci 0 60=61 from rfl,uE hn at_ 61 0 (by omega) (by omega),ag]
 cases fdD (pF n c b w l at_) 61 0<;>rfl
theorem fo {n:Network} (hn:NetOk n) (c:List Trip) (b:List Booking) (w:Int):Find (.I_freeOf_1 n c b w) n (fF n c b w):=by
 refine⟨fun l a=>?_,fun{l a d} h=>?_⟩
 ·show I_freeOf_1 G.real TE.real l a n c b w=_
  unfold I_freeOf_1 fF
  rw[show ci 0 60=61 from rfl,uC hn a 61 0 (by omega) (by omega),ag]
  cases fdD (pF n c b w l a) 61 0<;>rfl
 ·obtain⟨h1,_,_⟩:=nW h
  unfold pF pN at h1
  simp only[Bool.and_eq_true,decide_eq_true_eq] at h1
  exact h1.1
end Go.Vs
namespace Go.Vs
open Go.IntWalk
theorem zN {n:Network} {c:List Trip} {b:List Booking} {w:Int} {f:Int→Int→Option Int} (hn:NetOk n) (hf:f=fF n c b w) {best:List Int} (hl:best.length=(plc n).length) (hb:∀i,lab best i≤100000) {st:Nat}:∀(ls:List Leg) (k:Nat) (out:List Int),n.Legs.drop k=ls→out.length=(plc n).length→
 bg G.real TE.real n b c w (plc n) best (st:Int) ls (k:Int) out=some (fV n f st best ls (k:Int) out)
 |[],k,out,_,_=>by rw[bg,fV]
 |z::ls,k,out,hd,ho=>by
  have hlen:=hn.len
  have hk:k<n.Legs.length:=by
   have:=congrArg List.length hd
   simp at this;omega
  have hz:n.Legs[k]?=some z:=by
   have:(n.Legs.drop k)[0]?=some z:=by rw[hd];rfl
   simpa using this
  have hd2:n.Legs.drop (k+1)=ls:=by
   have:=congrArg List.tail hd
   simpa using this
  have hm:=List.mem_of_getElem? hz
  obtain⟨ha,hbz⟩:=iK hm
  have pl:=dB n
  have e1:ix (plc n) z.From=(aI n z:Int):=fX ((dA n _).2 ⟨z,hm,.inl rfl⟩)
  have e2:ix (plc n) z.To=(bI n z:Int):=fX ((dA n _).2 ⟨z,hm,.inr rfl⟩)
  have hk1:(k:Int)+1=((k+1:Nat):Int):=by omega
  rw[bg,fV]
  simp only[aZ,sA (show(plc n).length≤4194304 by omega),e1,e2,co,cw,Int.toNat_natCast,df,bG,gR,am]
  rw[ah (by omega),ar (bX (l:=best) (by omega)),w64 (n:=(k:Int)+1) (by omega) (by omega),hk1]
  have ih:=fun o ho=>zN hn hf hl hb (st:=st) ls (k+1) o hd2 ho
  by_cases h0:lab best (aI n z)<0
  ·have hv:via n f st best z (k:Int)=none:=by unfold via;rw[if_pos h0]
   rw[if_pos h0,hv]
   exact ih out ho
  ·rw[if_neg h0,ah (by omega)]
   have hx:=hb (aI n z)
   have hc:=hn.change
   have er:eC G.real TE.real n (lab best (aI n z)) (decide ((aI n z:Int)=(st:Int)))=rdy n (lab best (aI n z)) (decide (aI n z=st)):=by
    unfold eC rdy
    simp only[bG,am]
    rw[w64 (by omega) (by omega)]
    by_cases hs:aI n z=st
    ·rw[if_pos (by omega),if_pos (by simp[hs])]
    ·rw[if_neg (by omega),if_neg (by simp[hs])]
   rw[er,xA hn,←hf,ag]
   cases hfv:f (k:Int) (rdy n (lab best (aI n z)) (decide (aI n z=st))) with
   |none=>
    have hv:via n f st best z (k:Int)=none:=by unfold via;rw[if_neg h0,hfv];rfl
    rw[hv,if_pos (show dyO none<0 by show(-1:Int)<0;omega)]
    exact ih out ho
   |some d=>
    have hv:via n f st best z (k:Int)=some (enN n (k:Int) d):=by unfold via;rw[if_neg h0,hfv];rfl
    rw[hv]
    show _=some (if bh out (bI n z) (enN n (k:Int) d) then fV n f st best ls ((k+1:Nat):Int) (out.set (bI n z) (enN n (k:Int) d)) else fV n f st best ls ((k+1:Nat):Int) out)
    obtain⟨r1,r2,r3,r4⟩:=ee (n:=n) (by omega) (((fo hn c b w).ok (by rw[hf] at hfv;exact hfv)).1)
    rw[if_neg (show¬dyO (some d)<0 by show¬d<0;omega),show dyO (some d)=d from rfl,zO hn r1 r2 r3 r4,ag,ah (by omega),ar (bX (l:=out) (by omega))]
    have ho2:(out.set (bI n z) (enN n (k:Int) d)).length=(plc n).length:=by simpa using ho
    by_cases h1:lab out (bI n z)<0
    ·have hbt:bh out (bI n z) (enN n (k:Int) d):=.inl h1
     rw[if_pos h1,ah (by omega),if_pos hbt,ih _ ho2]
    ·rw[if_neg h1,ah (by omega)]
     by_cases h2:enN n (k:Int) d<lab out (bI n z)
     ·have hbt:bh out (bI n z) (enN n (k:Int) d):=.inr h2
      rw[if_pos h2,ah (by omega),if_pos hbt,ih _ ho2]
     ·have hbt:¬bh out (bI n z) (enN n (k:Int) d):=by unfold bh;omega
      rw[if_neg h2,if_neg hbt]
      exact ih out ho
theorem yd {n:Network} {c:List Trip} {b:List Booking} {w:Int} {f:Int→Int→Option Int} (hn:NetOk n) (hf:f=fF n c b w) {st:Nat}:∀(m k:Nat) (best:List Int),best.length=(plc n).length→(∀i,lab best i≤100000)→
 cg G.real TE.real n b c w (plc n) (st:Int) m (k:Int) best=some (itr n f st (min m ((plc n).length-k)) best)
 |0,k,best,_,_=>by rw[cg,Nat.zero_min];rfl
 |m+1,k,best,hl,hb=>by
  have pl:=dB n
  have hlen:=hn.len
  have hok:FOk n f:=⟨hn,by rw[hf];exact(fo hn c b w).ok⟩
  rw[cg]
  simp only[df,gH,gF,am,bG]
  by_cases hk:k<(plc n).length
  ·rw[if_pos (by omega)]
   unfold jY lk
   simp only[aZ,List.nil_append]
   rw[ah (by simp;omega),ag,show(0:Int)=((0:Nat):Int) from rfl,zN hn hf hl hb n.Legs 0 best (by simp) hl]
   simp only[ag]
   rw[w64 (by omega) (by omega),show(k:Int)+1=((k+1:Nat):Int) from by omega]
   have:=yd hn hf (st:=st) m (k+1) (rnd n f st best) (jS.trans hl) (tB hok hl hb)
   rw[show fV n f st best n.Legs ((0:Nat):Int) best=rnd n f st best from rfl,this,show min (m+1) ((plc n).length-k)=min m ((plc n).length-(k+1))+1 by omega]
   rfl
  ·rw[if_neg (by omega),show min (m+1) ((plc n).length-k)=0 by omega]
   rfl
def bfL (n:Network) (l:List Booking) (c:List Trip) (s:ByteArray) (a w m:Int):List Int:=
 if bkB n l=true∧1≤w then k7 n (fF n c l w) s a m else[]
theorem xo {n:Network} {l:List Booking} (h:bkB n l=true):jx n=true:=by
 unfold bkB at h
 simp only[Bool.and_eq_true] at h
 exact h.1
theorem A8 {n:Network} (ht:n.tot≤1048576) (l:List Booking) (hl:l.length≤1048576) (c:List Trip) (s:ByteArray) (a w:Int) {m:Int} (hm:m≤9223372036854775807):bF G.real TE.real n l c s a w m=some (bfL n l c s a w m):=by
 have pl:=dB n
 have hlen:=kZ ht
 unfold bF bfL
 rw[w6 (by omega),AE ht l hl]
 simp only[ag,aZ,sA (show(plc n).length≤4194304 by omega),df,am]
 cases hb:bkB n l with
 |false=>rw[oa,if_neg (by simp)]
 |true=>
  have hn:=rt ht (xo hb)
  have hlen:=hn.len
  have hok:FOk n (fF n c l w):=⟨hn,(fo hn c l w).ok⟩
  rw[fr]
  unfold k7
  by_cases h1:s∈plc n
  ·have hi:=cz h1
   rw[fX h1,if_neg (by omega)]
   by_cases h2:100000<a
   ·rw[if_pos h2];split<;>simp[h2]
   ·rw[if_neg h2]
    by_cases h4:1≤w
    ·rw[if_neg (by omega),if_pos (c:=true=true∧1≤w) ⟨rfl,h4⟩]
     by_cases h3:m<0
     ·rw[if_pos h3,if_pos (by simp[h3])]
     ·rw[if_neg h3,if_neg (by simp[h1,h2,h3])]
      have cm:aS 0 m=m.toNat:=by unfold aS;omega
      rw[zu hn hi.1,ag,ah hm,cm,show(0:Int)=((0:Nat):Int) from rfl,yd hn rfl m.toNat 0 _ (fH _ _ _) (nH hi.1 (by omega)),ag,Nat.sub_zero,zg hok (fH _ _ _)]
    ·rw[if_pos (by omega),if_neg (fun h=>h4 h.2)]
  ·rw[if_pos (oC.2 h1)];split
   ·rw[if_pos (.inl h1)]
   ·rfl
end Go.Vs
namespace Go.Vs
open Go.IntWalk
theorem yn {n:Network} {c:List Trip} {b:List Booking} {w:Int} (hn:NetOk n) {best:List Int} (hl:best.length=(plc n).length) (hb:∀i,lab best i≤100000) {st:Nat} {x:ByteArray} (hx:x∈plc n) (e:Int):∀(ls:List Leg) (k:Nat),n.Legs.drop k=ls→
 bR G.real TE.real n b c w (plc n) best (st:Int) ((ixN (plc n) x:Nat):Int) e ls (k:Int)=some (match stF n (fF n c b w) st best x e ls (k:Int) with|some t=>.ret t|none=>.out ())
 |[],k,_=>by rw[bR,stF]
 |z::ls,k,hd=>by
  have hlen:=hn.len
  have hk:k<n.Legs.length:=by
   have:=congrArg List.length hd
   simp at this;omega
  have hz:n.Legs[k]?=some z:=by
   have:(n.Legs.drop k)[0]?=some z:=by rw[hd];rfl
   simpa using this
  have hd2:n.Legs.drop (k+1)=ls:=by
   have:=congrArg List.tail hd
   simpa using this
  have hm:=List.mem_of_getElem? hz
  obtain⟨ha,hbz⟩:=iK hm
  have pl:=dB n
  have hfm:z.From∈plc n:=(dA n _).2 ⟨z,hm,.inl rfl⟩
  have e1:ix (plc n) z.From=(aI n z:Int):=fX hfm
  have hk1:(k:Int)+1=((k+1:Nat):Int):=by omega
  rw[bR,stF]
  simp only[aZ,sA (show(plc n).length≤4194304 by omega),e1,cw,Int.toNat_natCast,df,nt,bG,gR,kW,am]
  rw[ah (by omega),ar (cz hx).2,w64 (n:=(k:Int)+1) (by omega) (by omega),hk1,yn hn hl hb hx e ls (k+1) hd2]
  by_cases h0:z.To=x
  ·rw[if_pos h0,if_pos h0,ah (by omega),ar (bX (l:=best) (by omega))]
   unfold dyv
   by_cases h1:lab best (aI n z)<0
   ·rw[if_pos h1,if_pos h1]
   ·rw[if_neg h1,if_neg h1,ah (by omega)]
    have hxx:=hb (aI n z)
    have hc:=hn.change
    have er:eC G.real TE.real n (lab best (aI n z)) (decide ((aI n z:Int)=(st:Int)))=rdy n (lab best (aI n z)) (decide (aI n z=st)):=by
     unfold eC rdy
     simp only[bG,am]
     rw[w64 (by omega) (by omega)]
     by_cases hs:aI n z=st
     ·rw[if_pos (by omega),if_pos (by simp[hs])]
     ·rw[if_neg (by omega),if_neg (by simp[hs])]
    rw[er,xA hn,ag]
    cases hfv:fF n c b w (k:Int) (rdy n (lab best (aI n z)) (decide (aI n z=st))) with
    |none=>
     rw[if_neg (show¬(0:Int)≤dyO none by show¬(0:Int)≤ -1;omega)]
    |some d=>
     obtain⟨r1,r2,r3,r4⟩:=ee (n:=n) (by omega) ((fo hn c b w).ok hfv).1
     rw[if_pos (show(0:Int)≤dyO (some d) from r3),show dyO (some d)=d from rfl,zO hn r1 r2 r3 r4,ag]
     by_cases h2:enN n (k:Int) d=e
     ·simp only[if_pos h2]
     ·simp only[if_neg h2]
  ·rw[if_neg h0,if_neg h0]
end Go.Vs
namespace Go.Vs
open Go.IntWalk
theorem sl1 {n:Network} {b:List Booking} {c:List Trip} {s:ByteArray} {a w:Int} {R:Nat→List Int} {p:Nat} {x5:Int} (hR:∀m:Nat,bF G.real TE.real n b c s a w (m:Int)=some (R m)∨1000<m) (hp:∀m,p<(R m).length):∀(d fuel v:Nat),d<fuel→v+d≤1000→(∀u,v≤u→u<v+d→lab (R u) p≠x5)→lab (R (v+d)) p=x5→
 cR G.real TE.real n b c s a w (p:Int) x5 fuel (v:Int)=some ((v+d:Nat):Int)
 |d,0,v,h,_,_,_=>absurd h (Nat.not_lt_zero d)
 |d,fuel+1,v,h,h1,h2,h3=>by
  have hp1:=hp v
  have hr:bF G.real TE.real n b c s a w (v:Int)=some (R v):=by
   rcases hR v with hr|hr
   ·exact hr
   ·omega
  rw[cR,hr,ag]
  simp only[cw,Int.toNat_natCast,co,gR,am,bG]
  rw[ah (by omega),ar (bX hp1)]
  cases d with
  |zero=>rw[if_pos (show lab (R v) p=x5 from h3)];rfl
  |succ d=>
   rw[if_neg (h2 v (by omega) (by omega)),w64 (by omega) (by omega),show(v:Int)+1=((v+1:Nat):Int) from by omega,sl1 hR hp d fuel (v+1) (by omega) (by omega) (fun u g1 g2=>h2 u (by omega) (by omega)) (by rw[show v+1+d=v+(d+1) by omega];exact h3),show v+1+d=v+(d+1) by omega]
theorem sl2 {n:Network} {b:List Booking} {c:List Trip} {w a:Int} (hn:NetOk n) {s:ByteArray} {b0:List Int} (hl:b0.length=(plc n).length) (hb:∀i,lab b0 i≤100000)
 (hR:∀m:Nat,bF G.real TE.real n b c s a w (m:Int)=some (itr n (fF n c b w) (ixN (plc n) s) m b0)∨1000<m):∀(k fuel:Nat) (x:ByteArray) (e:Int) (acc r:List Trip),k<fuel→k≤1000→x∈plc n→acc.length+k≤1000→chF n (fF n c b w) (ixN (plc n) s) b0 k x e acc=some r→
 bY G.real TE.real n b c s a w (plc n) ((ixN (plc n) s:Nat):Int) fuel ((ixN (plc n) x:Nat):Int) acc e (k:Int)=some r
 |k,0,x,e,acc,r,h,_,_,_,_=>absurd h (Nat.not_lt_zero k)
 |0,fuel+1,x,e,acc,r,h,h1,hx,h2,hc=>by
  rw[chF] at hc
  cases hc
  rw[bY]
  simp only[df,am]
  rw[if_neg (by omega)]
 |k+1,fuel+1,x,e,acc,r,h,h1,hx,h2,hc=>by
  have hok:FOk n (fF n c b w):=⟨hn,(fo hn c b w).ok⟩
  have pl:=dB n
  have hlen:=hn.len
  have hr:bF G.real TE.real n b c s a w (k:Int)=some (itr n (fF n c b w) (ixN (plc n) s) k b0):=by
   rcases hR k with hr|hr
   ·exact hr
   ·omega
  rw[chF] at hc
  rw[bY]
  simp only[df,am,ir,cw]
  rw[if_pos (by omega),w64 (by omega) (by omega),show((k+1:Nat):Int)-1=(k:Int) from by omega,hr,ag]
  unfold lN
  have hl2:=(eW (n:=n) (f:=fF n c b w) (st:=ixN (plc n) s) k b0).trans hl
  have hb2:=tV (st:=ixN (plc n) s) hok k hl hb
  rw[show(0:Int)=((0:Nat):Int) from rfl,yn hn hl2 hb2 hx e n.Legs 0 (by simp),ag]
  cases ht:stF n (fF n c b w) (ixN (plc n) s) (itr n (fF n c b w) (ixN (plc n) s) k b0) x e n.Legs ((0:Nat):Int) with
  |none=>rw[show((0:Nat):Int)=0 from rfl] at ht;rw[ht] at hc;cases hc
  |some t=>
   rw[show((0:Nat):Int)=0 from rfl] at ht
   rw[ht] at hc
   obtain⟨t2,t3⟩:=uv ht
   have hfm:(dW n t.Leg).From∈plc n:=(dA n _).2 ⟨_,kQ t2 t3,.inl rfl⟩
   have hi:=(cz hfm).1
   simp only[yc,aZ,ag]
   rw[ah (by simp;omega),ah (by omega),ar (eX t2 t3)]
   simp only[sA (show(plc n).length≤4194304 by omega),fX hfm,co]
   rw[ah (by omega),Int.toNat_natCast,ar (bX (by omega))]
   exact sl2 hn hl hb hR k fuel _ _ _ r (by omega) (by omega) hfm (by simp;omega) hc
end Go.Vs
namespace Go.Vs
open Go.IntWalk
theorem zD {n:Network} (ht:n.tot≤1048576) (l:List Booking) (hl:l.length≤1048576) (c:List Trip) (s p:ByteArray) (a w:Int):
 ∃r,en G.real TE.real n l c s p a w=some r∧dI G.real TE.real n l c s p a w=some r∧r.1.length≤1000:=by
 have pl:=dB n
 have hlen:=kZ ht
 have hS:∀m:Int,m≤9223372036854775807→bF G.real TE.real n l c s a w m=some (bfL n l c s a w m):=fun m hm=>A8 ht l hl c s a w hm
 unfold en dI iY
 rw[w6 (by omega),A9 ht l hl]
 simp only[ag,aZ,gH,gF,sA (show(plc n).length≤4194304 by omega)]
 rw[hS _ (by omega),ag]
 simp only[df,gR,cw,co,am]
 cases hb:bkB n l with
 |false=>
  have e:bfL n l c s a w ((plc n).length:Int)=[]:=by unfold bfL;rw[if_neg (by simp[hb])]
  refine⟨([],false),?_,rfl,by simp⟩
  rw[e]
  split
  ·rfl
  ·rfl
 |true=>
  have hn:=rt ht (xo hb)
  have hlen:=hn.len
  rw[fr]
  by_cases hw:w<1
  ·have e:bfL n l c s a w ((plc n).length:Int)=[]:=by unfold bfL;rw[if_neg (fun h=>by omega)]
   refine⟨([],false),?_,by rw[if_pos hw],by simp⟩
   rw[e]
   split
   ·rfl
   ·rfl
  ·have hbf:∀m:Int,bfL n l c s a w m=k7 n (fF n c l w) s a m:=fun m=>by unfold bfL;rw[if_pos ⟨hb,by omega⟩]
   have hf:=fo hn c l w
   have hok:FOk n (fF n c l w):=⟨hn,hf.ok⟩
   rw[if_neg hw,hbf]
   unfold gJ
   rw[xy (by omega)]
   simp only[ag,aZ,gH,gF,oq (show(plc n).length≤4194304 by omega),df,cw,co,am,ir,kG]
   rw[ah (c:=((plc n).length:Int)≤4611686018427387904) (by omega),show ci 0 ((plc n).length:Int)=(plc n).length+1 from by unfold ci;omega]
   by_cases h1:s∈plc n∧a≤100000
   ·by_cases h2:p∈plc n
    ·
     have hi:=cz h1.1
     have hj:=cz h2
     have hR:∀m:Int,0≤m→k7 n (fF n c l w) s a m=itr n (fF n c l w) (ixN (plc n) s) m.toNat (eM n (ixN (plc n) s) a):=fun m hm=>uo h1.1 h1.2 hm
     have hll:=fH n (ixN (plc n) s) a
     have hlb:=nH (n:=n) hi.1 h1.2
     have hW:=wl1 hn hf (a:=a) h1.1 h1.2 (x2:=ix (plc n) p) (by rw[fX h2];omega) ((plc n).length+1) 0 (by omega)
     rw[show(0:Int)=((0:Nat):Int) from rfl]
     rw[show([]:List (List Int))=((List.range 0).map fun j=>itr n (fF n c l w) (ixN (plc n) s) j (eM n (ixN (plc n) s) a)) from rfl,hW,Nat.zero_add]
     simp only[ag,iI]
     have g:((List.range ((plc n).length+1)).map fun j=>itr n (fF n c l w) (ixN (plc n) s) j (eM n (ixN (plc n) s) a))[(plc n).length]?=some (itr n (fF n c l w) (ixN (plc n) s) (plc n).length (eM n (ixN (plc n) s) a)):=by
      rw[List.getElem?_map,List.getElem?_range (by omega)];rfl
     have hp:∀m,ixN (plc n) p<(itr n (fF n c l w) (ixN (plc n) s) m (eM n (ixN (plc n) s) a)).length:=fun m=>by rw[eW,hll];exact hj.1
     have hpP:=hp (plc n).length
     rw[hR _ (by omega),Int.toNat_natCast,fX h2]
     by_cases h3:lab (itr n (fF n c l w) (ixN (plc n) s) (plc n).length (eM n (ixN (plc n) s) a)) (ixN (plc n) p)<((0:Nat):Int)
     ·refine⟨([],false),?_,?_,by simp⟩
      ·rw[if_neg (by omega),if_neg (by omega),ah (by omega),Int.toNat_natCast,ar (bX hpP),if_pos h3]
      ·rw[ar g,ah (by simp;omega),ah (by omega),Int.toNat_natCast,ar (bX hpP),if_pos h3];rfl
     ·have hRS:∀m:Nat,bF G.real TE.real n l c s a w (m:Int)=some (itr n (fF n c l w) (ixN (plc n) s) m (eM n (ixN (plc n) s) a))∨1000<m:=fun m=>by
       rcases Nat.lt_or_ge 1000 m with hm|hm
       ·exact .inr hm
       ·left;rw[hS _ (by omega),hbf,hR _ (by omega),Int.toNat_natCast]
      obtain⟨y,y1,y2,y3⟩:=uI (fun m=>lab (itr n (fF n c l w) (ixN (plc n) s) m (eM n (ixN (plc n) s) a)) (ixN (plc n) p)=lab (itr n (fF n c l w) (ixN (plc n) s) (plc n).length (eM n (ixN (plc n) s) a)) (ixN (plc n) p)) (plc n).length rfl
      have q1:=wl2 (R:=fun m=>itr n (fF n c l w) (ixN (plc n) s) m (eM n (ixN (plc n) s) a)) (P:=(plc n).length) (p:=ixN (plc n) p) (by omega) hp y 1000000000 0 (by omega) (by omega) (fun u _ hu=>y3 u (by omega)) (by rw[Nat.zero_add];exact y2)
      have q2:=sl1 (R:=fun m=>itr n (fF n c l w) (ixN (plc n) s) m (eM n (ixN (plc n) s) a)) (p:=ixN (plc n) p) hRS hp y 1000000000 0 (by omega) (by omega) (fun u _ hu=>y3 u (by omega)) (by rw[Nat.zero_add];exact y2)
      rw[Nat.zero_add] at q1 q2
      obtain⟨r,r1,r2⟩:=tz hok hll y (x:=p) [] h2 (fun j hj=>by
       subst hj
       intro he
       exact y3 j (by omega) (he.symm.trans y2))
      rw[y2] at r1
      have q3:=sl2 hn hll hlb hRS y 1000000000 p _ [] r (by omega) (by omega) h2 (by simp;omega) r1
      have q4:=wl3 hn hf h1.1 hll hlb (P:=(plc n).length) (by omega) y 1000000000 p _ [] r (by omega) (by omega) h2 (by simp;omega) r1
      simp only[List.length_nil,Nat.zero_add] at r2
      refine⟨(r,true),?_,?_,by simp;omega⟩
      ·rw[if_neg (by omega),if_neg (by omega),ah (by omega),Int.toNat_natCast,ar (bX hpP),if_neg h3,ah (by omega),q2,ag,fX h1.1,q3,ag]
      ·rw[ar g,ah (by simp;omega),ah (by omega),Int.toNat_natCast,ar (bX hpP),if_neg h3,q1]
       simp only[ag]
       rw[q4]
       simp only[ag,iI,kD,List.length_reverse]
       have q5:=wl4 r.reverse (by simp;omega) r.length 1000000000 [] (by omega) (by simp) (by simp;omega)
       rw[w64 (by omega) (by omega),q5,List.take_of_length_le (by simp),List.reverse_reverse,List.nil_append]
       rfl
    ·refine⟨([],false),?_,?_,by simp⟩
     ·rw[if_pos (oC.2 h2)]
     ·have hla:=sJ (n:=n) (f:=fF n c l w) (m:=0) h1.1 h1.2 (by omega)
      have hi:=(cz h1.1).1
      rw[bz,s9 hn hf s a (by omega),ag]
      simp only[gR,df,gH,co,am]
      rw[hla,if_neg (by omega),if_pos (oC.2 h2)];rfl
   ·have e:∀m:Int,k7 n (fF n c l w) s a m=[]:=fun m=>by
     unfold k7
     rw[if_pos]
     by_cases h2:s∈plc n
     ·right;left
      have:¬a≤100000:=fun h=>h1 ⟨h2,h⟩
      omega
     ·exact .inl h2
    refine⟨([],false),?_,?_,by simp⟩
    ·rw[e]
     split
     ·rfl
     ·rfl
    ·rw[bz,s9 hn hf s a (by omega),ag,e]
     rfl
end Go.Vs
