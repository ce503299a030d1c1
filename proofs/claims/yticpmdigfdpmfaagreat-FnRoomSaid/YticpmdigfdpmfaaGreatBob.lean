/- Part of the proofs of this seat's laws: Bob. No condition. -/
import Derived.Test.YticpmdigfdpmfaaGreatLad
import Derived.Test.YticpmdigfdpmfaaGreatBok
import Derived.Test.YticpmdigfdpmfaaGreatLab
import Derived.Test.YticpmdigfdpmfaaGreatRoo
import Derived.Test.YticpmdigfdpmfaaGreatRec
import Derived.Test.YticpmdigfdpmfaaGreatLac
set_option linter.unusedVariables false
set_option linter.unusedSimpArgs false
set_option linter.unusedSectionVars false
namespace Go.Vs
open Go.IntWalk
def gE (t:Trip):List Booking→Int
 |[]=>0
 |z::l=>(if z.Trip.Leg=t.Leg∧z.Trip.Day=t.Day then z.Weight else 0)+gE t l
def WOk (l:List Booking):Prop:=∀z∈l,1≤z.Weight∧z.Weight≤1000000
theorem uQ (t:Trip):∀{l:List Booking},WOk l→0≤gE t l∧gE t l≤1000000*l.length
 |[],_=>by simp[gE]
 |z::l,h=>by
  have ih:=uQ t (l:=l) fun y hy=>h y (by simp[hy])
  have hz:=h z (by simp)
  rw[gE]
  simp only[List.length_cons]
  split<;>omega
theorem qo (t:Trip):∀(l:List Booking) (v:Int),WOk l→l.length≤1000→0≤v→v+1000000*l.length≤2000000000→bQ G.real TE.real t l v=v+gE t l
 |[],v,_,_,_,_=>by rw[bQ,gE];omega
 |z::l,v,h,hl,h0,h1=>by
  have hz:=h z (by simp)
  simp only[List.length_cons] at hl h1
  have hw:WOk l:=fun y hy=>h y (by simp[hy])
  rw[bQ,gE]
  simp only[ib,ED,List.all_cons,List.all_nil,id,Bool.and_true,bR]
  by_cases e:z.Trip.Leg=t.Leg∧z.Trip.Day=t.Day
  ·rw[if_pos e,w64 (by omega) (by omega),qo t l (v+z.Weight) hw (by omega) (by omega) (by omega)]
   simp[e.1,e.2,dK]
   omega
  ·rw[if_neg e,qo t l v hw (by omega) h0 (by omega)]
   have e2:(decide (z.Trip.Leg=t.Leg)&&decide (z.Trip.Day=t.Day))=false:=by
    rw[Bool.eq_false_iff]
    intro hh
    rw[Bool.and_eq_true,decide_eq_true_eq,decide_eq_true_eq] at hh
    exact e hh
   rw[e2,mb]
   omega
theorem wH {l:List Booking} (h:WOk l) (hl:l.length≤1000) (t:Trip):cA G.real TE.real l t=gE t l:=by
 unfold cA
 rw[aP,qo t l 0 h hl (by omega) (by omega)]
 omega
theorem ot (t:Trip):∀(a b:List Booking),gE t (a++b)=gE t a+gE t b
 |[],b=>by rw[List.nil_append,gE];omega
 |z::a,b=>by rw[List.cons_append,gE,gE,ot t a b];omega
theorem zq (t:Trip) {a b:List Booking} (h:a.Perm b):gE t a=gE t b:=by
 induction h with
 |nil=>rfl
 |cons x _ ih=>rw[gE,gE,ih]
 |swap x y l=>simp only[gE];omega
 |trans _ _ h1 h2=>rw[h1,h2]
theorem AA (a b:Booking):beB a b=decide (cmB a b<0):=by
 have h:=v7 a b
 rw[CP] at h
 cases hb:beB a b with
 |true=>
  symm;rw[decide_eq_true_eq]
  rw[hb] at h
  have:¬(0:Int)≤cmB a b:=fun hh=>by have:=h.1 hh;cases this
  omega
 |false=>
  symm;rw[decide_eq_false_iff_not]
  have:=h.2 hb
  omega
def yu (l:List Booking):Prop:=l.Pairwise fun a b=>cmB a b<0
theorem tp {a b c:Booking} (h1:cmB a b<0) (h2:cmB b c<0):cmB a c<0:=by
 have h3:=fR.tr a b c (by omega) (by omega)
 rcases Int.lt_or_eq_of_le h3 with h|h
 ·exact h
 ·have h4:=fR.anti a c
  have h5:=fR.tr c a b (by omega) (by omega)
  have h6:=fR.anti b c
  omega
theorem xZ {n:Network} {l:List Booking}:∀{ls:List Booking} {k:Nat},l.drop k=ls→bkA n l ls k=true→yu ls∧∀y,1≤k→l[k-1]?=some y→∀z∈ls,cmB y z<0
 |[],_,_,_=>⟨List.Pairwise.nil,fun _ _ _ z hz=>by cases hz⟩
 |z::ls,k,hd,h=>by
  have hz:l[k]?=some z:=by
   have:(l.drop k)[0]?=some z:=by rw[hd];rfl
   simpa using this
  have hd2:l.drop (k+1)=ls:=by
   have:=congrArg List.tail hd
   simpa using this
  unfold bkA bk1 at h
  simp only[Bool.and_eq_true] at h
  obtain⟨i1,i2⟩:=xZ hd2 h.2
  have i3:=i2 z (by omega) (by simpa using hz)
  refine⟨List.pairwise_cons.2 ⟨i3,i1⟩,fun y hk hy x hx=>?_⟩
  have hyz:cmB y z<0:=by
   have hp:=h.1.1
   unfold prB at hp
   cases k with
   |zero=>omega
   |succ j=>
    simp only[Nat.add_sub_cancel] at hy
    simp only[hy] at hp
    rw[AA,decide_eq_true_eq] at hp
    exact hp
  rcases List.mem_cons.1 hx with rfl|hx
  ·exact hyz
  ·exact tp hyz (i3 x hx)
def Bk1 (n:Network) (z:Booking):Prop:=runsB n z.Trip.Leg z.Trip.Day=true∧(1≤z.Thing∧z.Thing≤9999)∧1≤z.Weight∧z.Weight≤1000000
theorem vv {n:Network} {l:List Booking}:∀{ls:List Booking} {k:Nat},bkA n l ls k=true→∀z∈ls,Bk1 n z
 |z::ls,k,h,y,hy=>by
  unfold bkA bk1 at h
  simp only[Bool.and_eq_true,decide_eq_true_eq] at h
  rcases List.mem_cons.1 hy with rfl|hy
  ·exact⟨h.1.2.1,h.1.2.2.1,h.1.2.2.2⟩
  ·exact vv h.2 y hy
theorem BC {n:Network} {l:List Booking} (ho:yu l) (he:∀z∈l,Bk1 n z):∀{ls:List Booking} {k:Nat},l.drop k=ls→bkA n l ls k=true
 |[],_,_=>by rw[bkA]
 |z::ls,k,hd=>by
  have hk:k<l.length:=by
   have:=congrArg List.length hd
   simp at this;omega
  have hz:l[k]?=some z:=by
   have:(l.drop k)[0]?=some z:=by rw[hd];rfl
   simpa using this
  have hd2:l.drop (k+1)=ls:=by
   have:=congrArg List.tail hd
   simpa using this
  obtain⟨e1,e2,e3⟩:=he z (List.mem_of_getElem? hz)
  unfold bkA bk1
  simp only[Bool.and_eq_true,decide_eq_true_eq]
  refine⟨⟨?_,e1,e2,e3⟩,BC ho he hd2⟩
  unfold prB
  cases k with
  |zero=>rfl
  |succ j=>
   have hj:j<l.length:=by omega
   simp only[List.getElem?_eq_getElem hj]
   rw[AA,decide_eq_true_eq]
   have:=(List.pairwise_iff_getElem.1 ho) j (j+1) hj hk (by omega)
   rw[List.getElem?_eq_getElem hk] at hz
   rw[Option.some.inj hz] at this
   exact this
theorem i9 {n:Network} {l:List Booking} (h:bkB n l=true):netB n=true∧l.length≤120∧yu l∧(∀z∈l,Bk1 n z)∧∀z∈l,gE z.Trip l≤(lgOf n z.Trip.Leg).Room:=by
 unfold bkB at h
 simp only[Bool.and_eq_true,decide_eq_true_eq] at h
 obtain⟨h1,h2,h3,h4⟩:=h
 have he:=vv h3
 refine⟨h1,h2,(xZ (k:=0) (by simp) h3).1,he,fun z hz=>?_⟩
 have:=List.all_eq_true.1 h4 z hz
 unfold bkW at this
 rw[decide_eq_true_eq,wH (fun y hy=>(he y hy).2.2) (by omega)] at this
 exact this
theorem DF {n:Network} {l:List Booking} (h1:netB n=true) (h2:l.length≤120) (h3:yu l) (h4:∀z∈l,Bk1 n z) (h5:∀z∈l,gE z.Trip l≤(lgOf n z.Trip.Leg).Room):bkB n l=true:=by
 unfold bkB
 simp only[Bool.and_eq_true,decide_eq_true_eq]
 refine⟨h1,h2,BC h3 h4 (k:=0) (by simp),List.all_eq_true.2 fun z hz=>?_⟩
 unfold bkW
 rw[decide_eq_true_eq,wH (fun y hy=>(h4 y hy).2.2) (by omega)]
 exact h5 z hz
theorem zN {l:List Booking} (h:KeyB l):yu (l.mergeSort leB):=by
 have hs:=List.pairwise_mergeSort zK AB l
 have hk:(l.mergeSort leB).Pairwise fun a b=>cmB a b≠0:=(List.Perm.pairwise_iff (fun{a b} hab hba=>hab (by have:=fR.anti a b;omega)) (List.mergeSort_perm l leB)).2 h
 refine(hs.and hk).imp fun{a b} q=>?_
 have:=(jB a b).1 q.1
 have:=q.2
 omega
end Go.Vs
namespace Go.Vs
open Go.IntWalk
theorem nI (a:Int):∀(l:List Booking) (w:List Trip),w.length+l.length≤1000000→∃r,cD G.real TE.real a l w=some r∧w.length≤r.length∧(r.length=w.length→∀z∈l,z.Thing≠a)
 |[],w,_=>⟨w,by rw[cD],Nat.le_refl _,fun _ z hz=>by cases hz⟩
 |z::l,w,h=>by
  simp only[List.length_cons] at h
  rw[cD,ib]
  by_cases e:z.Thing=a
  ·rw[decide_eq_true e,dK,aP,aj (by simp;omega),aP]
   obtain⟨r,r1,r2,r3⟩:=nI a l (w++[Trip.mk z.Trip.Leg z.Trip.Day]) (by simp;omega)
   simp only[List.length_append,List.length_cons,List.length_nil] at r2
   exact⟨r,r1,by omega,fun hh=>by omega⟩
  ·rw[decide_eq_false e,mb]
   obtain⟨r,r1,r2,r3⟩:=nI a l w (by omega)
   refine⟨r,r1,r2,fun hh y hy=>?_⟩
   rcases List.mem_cons.1 hy with rfl|hy
   ·exact e
   ·exact r3 hh y hy
theorem AQ (l:List Booking) (hl:l.length≤1000000) (a:Int):∃r,gZ G.real TE.real l a=some r∧(r.length=0→∀z∈l,z.Thing≠a):=by
 unfold gZ
 rw[aP]
 obtain⟨r,r1,r2,r3⟩:=nI a l [] (by simp;omega)
 rw[r1,af]
 exact⟨r,rfl,fun h=>r3 (by simpa using h)⟩
theorem Ct {n:Network} (ht:n.tot≤1048576) {l:List Booking} (hb:bkB n l=true) (hl:l.length≤1048576) {t:Trip} (hr:runsB n t.Leg t.Day=true):jd G.real TE.real n l t=some (rmN n l t.Leg t.Day):=by
 have hn:=iM ht (i9 hb).1
 have hlen:=hn.len
 obtain⟨r1,r2,r3,r4⟩:=cV (n:=n) (by omega) hr
 unfold jd
 rw[Bp ht l hl,hb,af,dK,sZ ht,af]
 rw[show lA n t=true from by unfold lA;rw[(i9 hb).1,hr];rfl,dK,aj r1,cw,ax (d9 r1 r2),aP]
 rfl
theorem xy (t:Trip):∀l:List Trip,eD G.real TE.real t l=bO G.real TE.real t l
 |[]=>by rw[eD,bO]
 |z::l=>by rw[eD,bO,xy t l]
theorem CD (l:List Trip) (t:Trip):mC G.real TE.real l t=I_hasTrip G.real TE.real l t:=by
 unfold mC I_hasTrip
 rw[xy]
def tt (n:Network):Int→List Trip→Int
 |v,[]=>v
 |_,t::l=>tt n (enN n t.Leg t.Day) l
theorem pU {n:Network} (ht:n.tot≤1048576) (hb:netB n=true) {p:ByteArray}:∀{l:List Trip} {x:ByteArray} {a:Int} (v:Int),Path n p x a l→de G.real TE.real n l v=some (.out (tt n v l))
 |[],x,a,v,_=>by rw[de,tt]
 |t::l,x,a,v,h=>by
  have hn:=iM ht hb
  have hlen:=hn.len
  obtain⟨r1,r2,r3,r4⟩:=cV (n:=n) (by omega) h.1
  rw[de,sZ ht,af,show lA n t=true from by unfold lA;rw[hb,h.1];rfl,dK,show t=⟨t.Leg,t.Day⟩ from rfl,xJ hn r1 r2 r3 r4,af,tt]
  exact pU ht hb _ h.2.2.2
theorem yv {n:Network} (ht:n.tot≤1048576) (hb:netB n=true) {p x:ByteArray} {a:Int} {l:List Trip} (v:Int) (h:Path n p x a l):g0 G.real TE.real n l v=some (tt n v l):=by
 unfold g0
 rw[sz ht,af,hb,dK,pU ht hb v h,af,kJ]
theorem tO {n:Network} (ht:n.tot≤1048576) (hb:netB n=true) {p:ByteArray}:∀{l:List Trip} {x:ByteArray} {a v:Int},Path n p x a l→v≤a→eA G.real TE.real n l v x=some (.out p)
 |[],x,a,v,h,_=>by rw[eA,show x=p from h]
 |t::l,x,a,v,h,hv=>by
  have hn:=iM ht hb
  have hlen:=hn.len
  have hc:=hn.change
  obtain⟨r1,r2,r3,r4⟩:=cV (n:=n) (by omega) h.1
  obtain⟨q1,q2,q3,q4⟩:=ku hn r1 r2 r3 r4
  have h3:=h.2.2.1
  rw[eA,sZ ht,af,show lA n t=true from by unfold lA;rw[hb,h.1];rfl,dK,aj r1,cw,ax (d9 r1 r2),h.2.1,j5,decide_eq_true rfl,dK]
  rw[show t=⟨t.Leg,t.Day⟩ from rfl,pm hn r1 r2 r3 r4,af,cP,ao,if_neg (by omega),aj r1,xJ hn r1 r2 r3 r4,af,bR,w64 (by omega) (by omega)]
  exact tO ht hb h.2.2.2 (Int.le_refl _)
theorem BU {n:Network} (ht:n.tot≤1048576) (hb:netB n=true) {p x:ByteArray} (hx:x∈plc n) (hp:p∈plc n) {a v:Int} {l:List Trip} (h:Path n p x a l) (hv:v≤a):kW G.real TE.real n l x p v=some true:=by
 have pl:=dT n
 have hlen:=jM ht
 unfold kW
 rw[xk (by omega),af,sz ht,af,hb,dK,aP,nt (by omega),gN hx,cP,ao,if_neg (by omega),aP,nt (by omega),gN hp,cP,ao,if_neg (by omega),tO ht hb h hv,af,kJ,j5,decide_eq_true rfl]
theorem uS {n:Network} (hn:NetOk n) {s p:ByteArray} {a:Int}:∀{l:List Trip} {x:ByteArray} {b v:Int},Path n p x b l→0≤lab (arL n s a) (ixN (plc n) x)→rdy n (lab (arL n s a) (ixN (plc n) x)) (decide (ixN (plc n) x=ixN (plc n) s))≤b→lab (arL n s a) (ixN (plc n) x)≤v→
 0≤lab (arL n s a) (ixN (plc n) p)∧lab (arL n s a) (ixN (plc n) p)≤tt n v l
 |[],x,b,v,hp,h0,_,h2=>by
  rw[tt,←show x=p from hp];exact⟨h0,h2⟩
 |t::l,x,b,v,hp,h0,h1,_=>by
  have hl:=uF hn hp h0 h1 t (by simp)
  have hc:=hn.change
  obtain⟨p1,p2,p3,p4⟩:=hp
  rw[tt]
  refine uS hn p4 hl.2.1 ?_ hl.2.2
  unfold rdy
  split<;>omega
theorem CC {n:Network} (ht:n.tot≤1048576) (hb:netB n=true) {s p:ByteArray} (hs:s∈plc n) (hp:p∈plc n) {a:Int} (ha:a≤100000) {l:List Trip} (h:Path n p s (max a 0) l):0≤eaB n s p a∧eaB n s p a≤tt n (max a 0) l:=by
 have hn:=iM ht hb
 have hok:FOk n (fN n):=⟨hn,(nH hn).ok⟩
 rw[CX hb hs ha hp]
 have h1:lab (fU n (ixN (plc n) s) a) (ixN (plc n) s)=max a 0:=by rw[iU (cj hs).1,if_pos rfl]
 have hm:=mQ (st:=ixN (plc n) s) hok (plc n).length (i:=ixN (plc n) s) (en n _ a) (by rw[h1];omega)
 rw[h1] at hm
 have hm:0≤lab (arL n s a) (ixN (plc n) s)∧lab (arL n s a) (ixN (plc n) s)≤max a 0:=hm
 exact uS hn h hm.1 (by unfold rdy;rw[if_pos (by simp)];exact hm.2) hm.2
end Go.Vs
namespace Go.Vs
open Go.IntWalk
def zzbk (a w:Int) (t:Trip):Booking:=⟨a,t,w⟩
theorem Cp {l:List Booking} (h:l.length≤1048576):cd G.real TE.real l=some l:=by
 unfold cd
 rw[aP,aj (by simp;omega)]
 rfl
theorem uM (a w:Int):∀(ls:List Trip) (l:List Booking),l.length+ls.length≤900000→dg G.real TE.real a w ls l=some (l++ls.map (zzbk a w))
 |[],l,_=>by rw[dg];simp
 |t::ls,l,h=>by
  simp only[List.length_cons] at h
  rw[dg,aP,aj (by simp;omega),aP,uM a w ls _ (by simp;omega)]
  rw[List.append_assoc]
  rfl
theorem u6 (a w:Int) (t:Trip):∀{ls:List Trip},(ls.map (·.Leg)).Nodup→(t∉ls→gE t (ls.map (zzbk a w))=0)∧(t∈ls→gE t (ls.map (zzbk a w))=w)
 |[],_=>⟨fun _=>rfl,fun h=>by cases h⟩
 |u::ls,h=>by
  rw[List.map_cons,List.nodup_cons] at h
  obtain⟨i1,i2⟩:=u6 a w t (ls:=ls) h.2
  rw[List.map_cons,gE]
  by_cases e:u=t
  ·subst e
   have hn:u∉ls:=fun hh=>h.1 (List.mem_map.2 ⟨u,hh,rfl⟩)
   refine⟨fun hh=>absurd List.mem_cons_self hh,fun _=>?_⟩
   rw[i1 hn,if_pos ⟨rfl,rfl⟩]
   show w+0=w
   omega
  ·have hne:¬((zzbk a w u).Trip.Leg=t.Leg∧(zzbk a w u).Trip.Day=t.Day):=fun hh=>e (by
    cases u;cases t;simp only[zzbk] at hh;rw[hh.1,hh.2])
   rw[if_neg hne]
   refine⟨fun hh=>?_,fun hh=>?_⟩
   ·rw[i1 (fun h2=>hh (List.mem_cons_of_mem _ h2))];omega
   ·rcases List.mem_cons.1 hh with rfl|h2
    ·exact absurd rfl e
    ·rw[i2 h2];omega
theorem wG {l:List Booking} (h:yu l):KeyB l:=h.imp fun{a b} q=>by omega
theorem xm {n:Network} (ht:n.tot≤1048576) {l:List Booking} {c:List Trip} {s p:ByteArray} {a w:Int} {r:List Trip} (hw:w≤1000000) (hr:RoomWay n l c s p a w r) (hlen:l.length+r.length≤120) (hno:∀z∈l,z.Thing≠9999):
 bkB n ((l++r.map (zzbk 9999 w)).mergeSort leB)=true∧KeyB (l++r.map (zzbk 9999 w)):=by
 obtain⟨b1,b2,b3,b4,b5⟩:=i9 hr.bk
 have hn:=iM ht b1
 have hnl:=hn.len
 have hrun:=fun t ht2=>(lF hn hr.path t ht2).1
 have hk:KeyB (l++r.map (zzbk 9999 w)):=by
  refine List.pairwise_append.2 ⟨wG b3,?_,fun x hx y hy=>?_⟩
  ·rw[List.pairwise_map]
   have:=hr.once
   rw[List.Nodup,List.pairwise_map] at this
   exact this.imp fun{t u} q e=>q (vd e).2.1
  ·obtain⟨t,_,rfl⟩:=List.mem_map.1 hy
   intro e
   exact hno x hx (vd e).2.2
 refine⟨?_,hk⟩
 have hp:=List.mergeSort_perm (l++r.map (zzbk 9999 w)) leB
 have hload:∀t:Trip,runsB n t.Leg t.Day=true→rmN n l t.Leg t.Day=(lgOf n t.Leg).Room-gE t l:=fun t hrt=>by
  obtain⟨r1,r2,_⟩:=cV (n:=n) (by omega) hrt
  have hroom:=(hn.legs _ (kL r1 r2)).room
  have hs:=uQ t (l:=l) fun y hy=>(b4 y hy).2.2
  unfold rmN
  rw[show(Trip.mk t.Leg t.Day)=t from rfl,wH (fun y hy=>(b4 y hy).2.2) (by omega),i5,w64 (by omega) (by omega)]
 refine DF b1 ?_ (zN hk) (fun z hz=>?_) (fun z hz=>?_)
 ·rw[List.length_mergeSort];simp;omega
 ·rcases List.mem_append.1 (hp.mem_iff.1 hz) with hz|hz
  ·exact b4 z hz
  ·obtain⟨t,ht2,rfl⟩:=List.mem_map.1 hz
   exact⟨hrun t ht2,⟨by show(1:Int)≤9999;omega,by show(9999:Int)≤9999;omega⟩,hr.wt,hw⟩
 ·rw[zq z.Trip hp,ot]
  obtain⟨k1,k2⟩:=u6 9999 w z.Trip hr.once
  by_cases hm:z.Trip∈r
  ·have h1:=(hr.room _ hm).2
   rw[hload _ (hrun _ hm)] at h1
   rw[k2 hm];omega
  ·rw[k1 hm]
   rcases List.mem_append.1 (hp.mem_iff.1 hz) with hz|hz
   ·have:=b5 z hz;omega
   ·obtain⟨t,ht2,rfl⟩:=List.mem_map.1 hz
    exact absurd ht2 hm
theorem yY {n:Network} (ht:n.tot≤1048576) {l:List Booking} {c:List Trip} {s p:ByteArray} {a w:Int} {r:List Trip} (hw:w≤1000000) (hr:RoomWay n l c s p a w r) (hlen:l.length+r.length≤120) (hno:∀z∈l,z.Thing≠9999):
 g7 G.real TE.real n l 9999 w r=some ((l++r.map (zzbk 9999 w)).mergeSort leB,true):=by
 obtain⟨k1,k2⟩:=xm ht hw hr hlen hno
 have hnl:=(iM ht (i9 hr.bk).1).len
 have hrl:=hr.len
 unfold g7
 rw[Bp ht l (by omega),hr.bk,af,dK,lp rfl rfl,cP,ao,if_neg (by omega),Cp (by omega),af,uM 9999 w r l (by omega),af]
 unfold mt
 rw[aj (by simp;omega),aj k2,af,Bp ht _ (by rw[List.length_mergeSort];simp;omega),k1,af,dK]
end Go.Vs
