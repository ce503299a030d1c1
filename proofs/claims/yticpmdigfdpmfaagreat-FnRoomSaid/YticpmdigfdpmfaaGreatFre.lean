/- Part of the proofs of this seat's laws: Fre. No condition. -/
import Derived.Test.YticpmdigfdpmfaaGreatWays
import Derived.Test.YticpmdigfdpmfaaGreatBok
import Derived.Test.YticpmdigfdpmfaaGreatLab
import Derived.Test.YticpmdigfdpmfaaGreatLaa
import Derived.Test.YticpmdigfdpmfaaGreatLac
import Derived.Test.YticpmdigfdpmfaaGreatLad
set_option linter.unusedVariables false
set_option linter.unusedSimpArgs false
set_option linter.unusedSectionVars false
namespace Go.Vs
open Go.IntWalk
theorem CO {n:Network} {c:List Trip} {b:List Booking} {w:Int} {f:Int→Int→Option Int} (hn:NetOk n) (hf:f=fF n c b w) {best:List Int} (hl:best.length=(plc n).length) (hb:∀i,lab best i≤100000) {st:Nat}:∀(ls:List Leg) (k:Nat) (out:List Int),n.Legs.drop k=ls→out.length=(plc n).length→
 bu G.real TE.real n b c w (plc n) best (st:Int) ls (k:Int) out=some (gJ n f st best ls (k:Int) out)
 |[],k,out,_,_=>by rw[bu,gJ]
 |z::ls,k,out,hd,ho=>by
  have hlen:=hn.len
  have hk:k<n.Legs.length:=by
   have:=congrArg List.length hd
   simp at this;omega
  have hz:n.Legs[k]?=some z:=by
   have:(n.Legs.drop k)[0]?=some z:=by rw[hd];rfl
   simpa using this
  have hd2:n.Legs.drop (k+1)=ls:=by
   have:=congrArg List.tail hd
   simpa using this
  have hm:=List.mem_of_getElem? hz
  obtain⟨ha,hbz⟩:=jF hm
  have pl:=dT n
  have e1:ix (plc n) z.From=(aI n z:Int):=gN ((c7 n _).2 ⟨z,hm,.inl rfl⟩)
  have e2:ix (plc n) z.To=(bI n z:Int):=gN ((c7 n _).2 ⟨z,hm,.inr rfl⟩)
  have hk1:(k:Int)+1=((k+1:Nat):Int):=by omega
  rw[bu,gJ]
  simp only[aP,tG (show(plc n).length≤4194304 by omega),e1,e2,cO,cw,Int.toNat_natCast,cP,bR,ib,ao]
  rw[aj (by omega),ax (cU (l:=best) (by omega)),w64 (n:=(k:Int)+1) (by omega) (by omega),hk1]
  have ih:=fun o ho=>CO hn hf hl hb (st:=st) ls (k+1) o hd2 ho
  by_cases h0:lab best (aI n z)<0
  ·have hv:via n f st best z (k:Int)=none:=by unfold via;rw[if_pos h0]
   rw[if_pos h0,hv]
   exact ih out ho
  ·rw[if_neg h0,aj (by omega)]
   have hx:=hb (aI n z)
   have hc:=hn.change
   have er:fy G.real TE.real n (lab best (aI n z)) (decide ((aI n z:Int)=(st:Int)))=rdy n (lab best (aI n z)) (decide (aI n z=st)):=by
    unfold fy rdy
    simp only[bR,ao]
    rw[w64 (by omega) (by omega)]
    by_cases hs:aI n z=st
    ·rw[if_pos (by omega),if_pos (by simp[hs])]
    ·rw[if_neg (by omega),if_neg (by simp[hs])]
   rw[er,Aa hn,←hf,af]
   cases hfv:f (k:Int) (rdy n (lab best (aI n z)) (decide (aI n z=st))) with
   |none=>
    have hv:via n f st best z (k:Int)=none:=by unfold via;rw[if_neg h0,hfv];rfl
    rw[hv,if_pos (show dyO none<0 by show(-1:Int)<0;omega)]
    exact ih out ho
   |some d=>
    have hv:via n f st best z (k:Int)=some (enN n (k:Int) d):=by unfold via;rw[if_neg h0,hfv];rfl
    rw[hv]
    show _=some (if bq out (bI n z) (enN n (k:Int) d) then gJ n f st best ls ((k+1:Nat):Int) (out.set (bI n z) (enN n (k:Int) d)) else gJ n f st best ls ((k+1:Nat):Int) out)
    obtain⟨r1,r2,r3,r4⟩:=cV (n:=n) (by omega) (((gf hn c b w).ok (by rw[hf] at hfv;exact hfv)).1)
    rw[if_neg (show¬dyO (some d)<0 by show¬d<0;omega),show dyO (some d)=d from rfl,CM hn r1 r2 r3 r4,af,aj (by omega),ax (cU (l:=out) (by omega))]
    have ho2:(out.set (bI n z) (enN n (k:Int) d)).length=(plc n).length:=by simpa using ho
    by_cases h1:lab out (bI n z)<0
    ·have hbt:bq out (bI n z) (enN n (k:Int) d):=.inl h1
     rw[if_pos h1,aj (by omega),if_pos hbt,ih _ ho2]
    ·rw[if_neg h1,aj (by omega)]
     by_cases h2:enN n (k:Int) d<lab out (bI n z)
     ·have hbt:bq out (bI n z) (enN n (k:Int) d):=.inr h2
      rw[if_pos h2,aj (by omega),if_pos hbt,ih _ ho2]
     ·have hbt:¬bq out (bI n z) (enN n (k:Int) d):=by unfold bq;omega
      rw[if_neg h2,if_neg hbt]
      exact ih out ho
theorem Ae {n:Network} {c:List Trip} {b:List Booking} {w:Int} {f:Int→Int→Option Int} (hn:NetOk n) (hf:f=fF n c b w) {st:Nat}:∀(m k:Nat) (best:List Int),best.length=(plc n).length→(∀i,lab best i≤100000)→
 cF G.real TE.real n b c w (plc n) (st:Int) m (k:Int) best=some (itr n f st (min m ((plc n).length-k)) best)
 |0,k,best,_,_=>by rw[cF,Nat.zero_min];rfl
 |m+1,k,best,hl,hb=>by
  have pl:=dT n
  have hlen:=hn.len
  have hok:FOk n f:=⟨hn,by rw[hf];exact(gf hn c b w).ok⟩
  rw[cF]
  simp only[cP,iu,iy,ao,bR]
  by_cases hk:k<(plc n).length
  ·rw[if_pos (by omega)]
   unfold lm nf
   simp only[aP,List.nil_append]
   rw[aj (by simp;omega),af,show(0:Int)=((0:Nat):Int) from rfl,CO hn hf hl hb n.Legs 0 best (by simp) hl]
   simp only[af]
   rw[w64 (by omega) (by omega),show(k:Int)+1=((k+1:Nat):Int) from by omega]
   have:=Ae hn hf (st:=st) m (k+1) (rnd n f st best) (iD.trans hl) (vF hok hl hb)
   rw[show gJ n f st best n.Legs ((0:Nat):Int) best=rnd n f st best from rfl,this,show min (m+1) ((plc n).length-k)=min m ((plc n).length-(k+1))+1 by omega]
   rfl
  ·rw[if_neg (by omega),show min (m+1) ((plc n).length-k)=0 by omega]
   rfl
def bfL (n:Network) (l:List Booking) (c:List Trip) (s:ByteArray) (a w m:Int):List Int:=
 if bkB n l=true∧1≤w then lq n (fF n c l w) s a m else[]
theorem zJ {n:Network} {l:List Booking} (h:bkB n l=true):netB n=true:=by
 unfold bkB at h
 simp only[Bool.and_eq_true] at h
 exact h.1
theorem Fp {n:Network} (ht:n.tot≤1048576) (l:List Booking) (hl:l.length≤1048576) (c:List Trip) (s:ByteArray) (a w:Int) {m:Int} (hm:m≤9223372036854775807):bV G.real TE.real n l c s a w m=some (bfL n l c s a w m):=by
 have pl:=dT n
 have hlen:=jM ht
 unfold bV bfL
 rw[A0 (by omega),C1 ht l hl]
 simp only[af,aP,tG (show(plc n).length≤4194304 by omega),cP,ao]
 cases hb:bkB n l with
 |false=>rw[mb,if_neg (by simp)]
 |true=>
  have hn:=iM ht (zJ hb)
  have hlen:=hn.len
  have hok:FOk n (fF n c l w):=⟨hn,(gf hn c l w).ok⟩
  rw[dK]
  unfold lq
  by_cases h1:s∈plc n
  ·have hi:=cj h1
   rw[gN h1,if_neg (by omega)]
   by_cases h2:100000<a
   ·rw[if_pos h2];split<;>simp[h2]
   ·rw[if_neg h2]
    by_cases h4:1≤w
    ·rw[if_neg (by omega),if_pos (c:=true=true∧1≤w) ⟨rfl,h4⟩]
     by_cases h3:m<0
     ·rw[if_pos h3,if_pos (by simp[h3])]
     ·rw[if_neg h3,if_neg (by simp[h1,h2,h3])]
      have cm:aW 0 m=m.toNat:=by unfold aW;omega
      rw[B4 hn hi.1,af,aj hm,cm,show(0:Int)=((0:Nat):Int) from rfl,Ae hn rfl m.toNat 0 _ (en _ _ _) (sM hi.1 (by omega)),af,Nat.sub_zero,Cr hok (en _ _ _)]
    ·rw[if_pos (by omega),if_neg (fun h=>h4 h.2)]
  ·rw[if_pos (pY.2 h1)];split
   ·rw[if_pos (.inl h1)]
   ·rfl
end Go.Vs
namespace Go.Vs
open Go.IntWalk
theorem pe {l:List ByteArray} {x y:ByteArray} (hx:x∈l) (hy:y∈l) (h:ixN l x=ixN l y):x=y:=by
 have h1:=(cj hx).2
 have h2:=(cj hy).2
 rw[h,h2] at h1
 exact(Option.some.inj h1).symm
section
variable {n:Network} {f:Int→Int→Option Int} {st:Nat}
def dyv (n:Network) (f:Int→Int→Option Int) (st:Nat) (best:List Int) (z:Leg) (v:Int):Option Int:=
 if lab best (aI n z)<0 then none else f v (rdy n (lab best (aI n z)) (decide (aI n z=st)))
theorem wR (best:List Int) (z:Leg) (v:Int):via n f st best z v=(dyv n f st best z v).map (enN n v):=by
 unfold via dyv
 split<;>rfl
def stF (n:Network) (f:Int→Int→Option Int) (st:Nat) (best:List Int) (x:ByteArray) (e:Int):List Leg→Int→Option Trip
 |[],_=>none
 |z::ls,v=>if z.To=x then(match dyv n f st best z v with|some d=>if enN n v d=e then some ⟨v,d⟩ else stF n f st best x e ls (v+1)|none=>stF n f st best x e ls (v+1)) else stF n f st best x e ls (v+1)
theorem w6 {best:List Int} {x:ByteArray} {e:Int}:∀(ls:List Leg) (k:Nat),n.Legs.drop k=ls→(∃(j:Nat) (z:Leg),k≤j∧n.Legs[j]?=some z∧z.To=x∧via n f st best z (j:Int)=some e)→
 ∃t,stF n f st best x e ls (k:Int)=some t
 |[],k,hd,h=>by
  obtain⟨j,z,h1,h2,_⟩:=h
  have:=List.drop_eq_nil_iff.1 hd
  rw[List.getElem?_eq_none (by omega)] at h2
  cases h2
 |z::ls,k,hd,h=>by
  have hz:n.Legs[k]?=some z:=by
   have:(n.Legs.drop k)[0]?=some z:=by rw[hd];rfl
   simpa using this
  have hd2:n.Legs.drop (k+1)=ls:=by
   have:=congrArg List.tail hd
   simpa using this
  have hk1:(k:Int)+1=((k+1:Nat):Int):=by omega
  obtain⟨j,y,h1,h2,h3,h4⟩:=h
  have ih:=fun hj=>w6 (best:=best) (x:=x) (e:=e) ls (k+1) hd2 ⟨j,y,hj,h2,h3,h4⟩
  rw[stF,hk1]
  by_cases hj:j=k
  ·subst hj
   rw[hz] at h2
   cases h2
   rw[if_pos h3]
   rw[wR] at h4
   cases hdv:dyv n f st best z (j:Int) with
   |none=>rw[hdv] at h4;cases h4
   |some d=>
    rw[hdv] at h4
    have h5:enN n (j:Int) d=e:=Option.some.inj h4
    exact⟨⟨(j:Int),d⟩,if_pos h5⟩
  ·have ih:=ih (by omega)
   split
   ·split
    ·split
     ·exact⟨_,rfl⟩
     ·exact ih
    ·exact ih
   ·exact ih
theorem p8 {best:List Int} {x:ByteArray} {e:Int}:∀(ls:List Leg) (k:Nat) {t:Trip},n.Legs.drop k=ls→stF n f st best x e ls (k:Int)=some t→
 ∃(j:Nat) (z:Leg),n.Legs[j]?=some z∧z.To=x∧t.Leg=(j:Int)∧via n f st best z (j:Int)=some e
 |[],k,t,hd,h=>by rw[stF] at h;cases h
 |z::ls,k,t,hd,h=>by
  have hz:n.Legs[k]?=some z:=by
   have:(n.Legs.drop k)[0]?=some z:=by rw[hd];rfl
   simpa using this
  have hd2:n.Legs.drop (k+1)=ls:=by
   have:=congrArg List.tail hd
   simpa using this
  have hk1:(k:Int)+1=((k+1:Nat):Int):=by omega
  have ih:=p8 (best:=best) (x:=x) (e:=e) ls (k+1) (t:=t) hd2
  rw[stF,hk1] at h
  split at h
  ·rename_i h1
   split at h
   ·rename_i d hdv
    split at h
    ·rename_i h2
     cases h
     exact⟨k,z,hz,h1,rfl,by rw[wR,hdv];exact congrArg some h2⟩
    ·exact ih h
   ·exact ih h
  ·exact ih h
def chF (n:Network) (f:Int→Int→Option Int) (st:Nat) (b0:List Int):Nat→ByteArray→Int→List Trip→Option (List Trip)
 |0,_,_,acc=>some acc
 |k+1,x,e,acc=>match stF n f st (itr n f st k b0) x e n.Legs 0 with
  |some t=>chF n f st b0 k (lgOf n t.Leg).From (lab (itr n f st k b0) (ixN (plc n) (lgOf n t.Leg).From)) (t::acc)
  |none=>none
theorem BY (h:FOk n f) {best:List Int} (hl:best.length=(plc n).length) {x:ByteArray} (hx:x∈plc n) (hc:lab (rnd n f st best) (ixN (plc n) x)≠lab best (ixN (plc n) x)):
 ∃t,stF n f st best x (lab (rnd n f st best) (ixN (plc n) x)) n.Legs 0=some t∧0≤t.Leg∧t.Leg<n.Legs.length∧(∀b,b.length=(plc n).length→best=rnd n f st b→lab (rnd n f st b) (ixN (plc n) (lgOf n t.Leg).From)≠lab b (ixN (plc n) (lgOf n t.Leg).From)):=by
 rcases(gW (st:=st) h hl (ixN (plc n) x)).1 with e|⟨j,z,e,g1,g2,g3,g4,g5⟩
 ·exact absurd e hc
 ·have hm:=List.mem_of_getElem? g1
  have hto:z.To=x:=pe ((c7 n _).2 ⟨z,hm,.inr rfl⟩) hx g2
  obtain⟨t,ht⟩:=w6 (n:=n) (f:=f) (st:=st) (best:=best) (x:=x) (e:=e) n.Legs 0 (by simp) ⟨j,z,by omega,g1,hto,g3⟩
  obtain⟨j2,z2,q1,q2,q3,q4⟩:=p8 (n:=n) (f:=f) (st:=st) n.Legs 0 (by simp) ht
  have hj:j2<n.Legs.length:=by
   rcases Nat.lt_or_ge j2 n.Legs.length with hh|hh
   ·exact hh
   ·rw[List.getElem?_eq_none hh] at q1;cases q1
  have hz2:lgOf n t.Leg=z2:=by
   have:=d9 (n:=n) (l:=t.Leg) (by omega) (by omega)
   rw[q3,Int.toNat_natCast,q1] at this
   rw[q3]
   exact(Option.some.inj this).symm
  refine⟨t,by rw[g4];exact ht,by omega,by omega,fun b hb hbe he=>?_⟩
  rw[hz2] at he
  have v2:via n f st b z2 (j2:Int)=some e:=by
   rw[←sq (b1:=best) (b2:=b) (by rw[hbe];exact he)];exact q4
  refine(gW (st:=st) h hb (ixN (plc n) x)).2 j2 z2 e q1 (by unfold bI;rw[q2]) v2 ?_
  rw[←hbe]
  exact g5
theorem Bm (h:FOk n f) {b0:List Int} (hl:b0.length=(plc n).length):∀(k:Nat) {x:ByteArray} (acc:List Trip),x∈plc n→(∀j,k=j+1→lab (itr n f st (j+1) b0) (ixN (plc n) x)≠lab (itr n f st j b0) (ixN (plc n) x))→
 ∃r,chF n f st b0 k x (lab (itr n f st k b0) (ixN (plc n) x)) acc=some r∧r.length=acc.length+k
 |0,x,acc,_,_=>⟨acc,rfl,rfl⟩
 |k+1,x,acc,hx,hc=>by
  have hc:=hc k rfl
  rw[gz] at hc ⊢
  obtain⟨t,t1,t2,t3,t4⟩:=BY h ((ff k _).trans hl) hx hc
  have hm:=kL t2 t3
  obtain⟨r,r1,r2⟩:=Bm h hl k (x:=(lgOf n t.Leg).From) (t::acc) ((c7 n _).2 ⟨_,hm,.inl rfl⟩) (fun j hj=>by
   subst hj
   have:=t4 (itr n f st j b0) ((ff j _).trans hl) (gz j b0)
   rw[gz];exact this)
  refine⟨r,?_,by rw[r2];simp;omega⟩
  rw[chF,t1]
  exact r1
end
theorem Ar {fd:Fd} {n:Network} {f:Int→Int→Option Int} (hn:NetOk n) (hf:Find fd n f) {best:List Int} (hl:best.length=(plc n).length) (hb:∀i,lab best i≤100000) {s x:ByteArray} (hs:s∈plc n) (hx:x∈plc n) (e:Int):∀(ls:List Leg) (k:Nat),n.Legs.drop k=ls→
 bJ G.real TE.real n fd (plc n) best s ((ixN (plc n) x:Nat):Int) e ls (k:Int)=some (match stF n f (ixN (plc n) s) best x e ls (k:Int) with|some t=>.ret (t,true)|none=>.out ())
 |[],k,_=>by rw[bJ,stF]
 |z::ls,k,hd=>by
  have hlen:=hn.len
  have hk:k<n.Legs.length:=by
   have:=congrArg List.length hd
   simp at this;omega
  have hz:n.Legs[k]?=some z:=by
   have:(n.Legs.drop k)[0]?=some z:=by rw[hd];rfl
   simpa using this
  have hd2:n.Legs.drop (k+1)=ls:=by
   have:=congrArg List.tail hd
   simpa using this
  have hm:=List.mem_of_getElem? hz
  obtain⟨ha,hbz⟩:=jF hm
  have pl:=dT n
  have hfm:z.From∈plc n:=(c7 n _).2 ⟨z,hm,.inl rfl⟩
  have e1:ix (plc n) z.From=(aI n z:Int):=gN hfm
  have hk1:(k:Int)+1=((k+1:Nat):Int):=by omega
  rw[bJ,stF]
  simp only[aP,nt (show(plc n).length≤4194304 by omega),e1,cw,Int.toNat_natCast,cP,bR,ib,j5,ao]
  rw[aj (by omega),ax (cj hx).2,w64 (n:=(k:Int)+1) (by omega) (by omega),hk1,Ar hn hf hl hb hs hx e ls (k+1) hd2]
  by_cases h0:z.To=x
  ·rw[if_pos h0,if_pos h0,aj (by omega),ax (cU (l:=best) (by omega))]
   unfold dyv
   by_cases h1:lab best (aI n z)<0
   ·rw[if_pos h1,if_pos h1]
   ·rw[if_neg h1,if_neg h1,aj (by omega)]
    have hxx:=hb (aI n z)
    have hc:=hn.change
    have er:fC G.real TE.real n (lab best (aI n z)) (decide (z.From=s))=rdy n (lab best (aI n z)) (decide (aI n z=ixN (plc n) s)):=by
     unfold fC rdy
     simp only[bR,ao]
     rw[w64 (by omega) (by omega)]
     by_cases hss:z.From=s
     ·rw[if_pos hss,if_pos (by simp[aI,hss])]
     ·rw[if_neg hss,if_neg (by simp only[decide_eq_true_eq];exact fun h=>hss (pe hfm hs h))]
    rw[er,hf.call,af]
    cases hfv:f (k:Int) (rdy n (lab best (aI n z)) (decide (aI n z=ixN (plc n) s))) with
    |none=>rfl
    |some d=>
     obtain⟨r1,r2,r3,r4⟩:=cV (n:=n) (by omega) (hf.ok hfv).1
     simp only[tbO,dK]
     rw[xJ hn r1 r2 r3 r4,af]
     by_cases h2:enN n (k:Int) d=e
     ·rw[if_pos h2,if_pos h2]
     ·rw[if_neg h2,if_neg h2]
  ·rw[if_neg h0,if_neg h0]
end Go.Vs
namespace Go.Vs
open Go.IntWalk
theorem AR {n:Network} {c:List Trip} {b:List Booking} {w:Int} (hn:NetOk n) {best:List Int} (hl:best.length=(plc n).length) (hb:∀i,lab best i≤100000) {st:Nat} {x:ByteArray} (hx:x∈plc n) (e:Int):∀(ls:List Leg) (k:Nat),n.Legs.drop k=ls→
 cg G.real TE.real n b c w (plc n) best (st:Int) ((ixN (plc n) x:Nat):Int) e ls (k:Int)=some (match stF n (fF n c b w) st best x e ls (k:Int) with|some t=>.ret t|none=>.out ())
 |[],k,_=>by rw[cg,stF]
 |z::ls,k,hd=>by
  have hlen:=hn.len
  have hk:k<n.Legs.length:=by
   have:=congrArg List.length hd
   simp at this;omega
  have hz:n.Legs[k]?=some z:=by
   have:(n.Legs.drop k)[0]?=some z:=by rw[hd];rfl
   simpa using this
  have hd2:n.Legs.drop (k+1)=ls:=by
   have:=congrArg List.tail hd
   simpa using this
  have hm:=List.mem_of_getElem? hz
  obtain⟨ha,hbz⟩:=jF hm
  have pl:=dT n
  have hfm:z.From∈plc n:=(c7 n _).2 ⟨z,hm,.inl rfl⟩
  have e1:ix (plc n) z.From=(aI n z:Int):=gN hfm
  have hk1:(k:Int)+1=((k+1:Nat):Int):=by omega
  rw[cg,stF]
  simp only[aP,tG (show(plc n).length≤4194304 by omega),e1,cw,Int.toNat_natCast,cP,nm,bR,ib,j5,ao]
  rw[aj (by omega),ax (cj hx).2,w64 (n:=(k:Int)+1) (by omega) (by omega),hk1,AR hn hl hb hx e ls (k+1) hd2]
  by_cases h0:z.To=x
  ·rw[if_pos h0,if_pos h0,aj (by omega),ax (cU (l:=best) (by omega))]
   unfold dyv
   by_cases h1:lab best (aI n z)<0
   ·rw[if_pos h1,if_pos h1]
   ·rw[if_neg h1,if_neg h1,aj (by omega)]
    have hxx:=hb (aI n z)
    have hc:=hn.change
    have er:fy G.real TE.real n (lab best (aI n z)) (decide ((aI n z:Int)=(st:Int)))=rdy n (lab best (aI n z)) (decide (aI n z=st)):=by
     unfold fy rdy
     simp only[bR,ao]
     rw[w64 (by omega) (by omega)]
     by_cases hs:aI n z=st
     ·rw[if_pos (by omega),if_pos (by simp[hs])]
     ·rw[if_neg (by omega),if_neg (by simp[hs])]
    rw[er,Aa hn,af]
    cases hfv:fF n c b w (k:Int) (rdy n (lab best (aI n z)) (decide (aI n z=st))) with
    |none=>
     rw[if_neg (show¬(0:Int)≤dyO none by show¬(0:Int)≤ -1;omega)]
    |some d=>
     obtain⟨r1,r2,r3,r4⟩:=cV (n:=n) (by omega) ((gf hn c b w).ok hfv).1
     rw[if_pos (show(0:Int)≤dyO (some d) from r3),show dyO (some d)=d from rfl,CM hn r1 r2 r3 r4,af]
     by_cases h2:enN n (k:Int) d=e
     ·simp only[if_pos h2]
     ·simp only[if_neg h2]
  ·rw[if_neg h0,if_neg h0]
end Go.Vs
namespace Go.Vs
open Go.IntWalk
theorem Ah (Q:Nat→Prop):∀(m:Nat),Q m→∃y,y≤m∧Q y∧∀u,u<y→¬Q u
 |0,h=>⟨0,Nat.le_refl _,h,fun u hu=>absurd hu (Nat.not_lt_zero u)⟩
 |m+1,h=>by
  rcases Classical.em (∃u,u<m+1∧Q u) with⟨u,h1,h2⟩|h3
  ·rcases Nat.lt_or_ge u m with hu|hu
   ·obtain⟨y,y1,y2,y3⟩:=Ah (fun k=>k≤m∧Q k∨k=m) m (.inr rfl)
    rcases Classical.em (∃u,u≤m∧Q u) with h4|h4
    ·obtain⟨u,g1,g2⟩:=h4
     rcases y2 with⟨_,y2⟩|y2
     ·exact⟨y,by omega,y2,fun v hv hq=>y3 v hv (.inl ⟨by omega,hq⟩)⟩
     ·subst y2
      rcases Nat.lt_or_ge u y with hh|hh
      ·exact absurd (.inl ⟨g1,g2⟩) (y3 u hh)
      ·obtain rfl:u=y:=by omega
       exact⟨u,by omega,g2,fun v hv hq=>y3 v hv (.inl ⟨by omega,hq⟩)⟩
    ·exact absurd ⟨u,by omega,h2⟩ h4
   ·obtain rfl:u=m:=by omega
    obtain⟨y,y1,y2,y3⟩:=Ah Q u h2
    exact⟨y,by omega,y2,y3⟩
  ·exact⟨m+1,Nat.le_refl _,h,fun u hu hq=>h3 ⟨u,hu,hq⟩⟩
theorem sO {n:Network} {f:Int→Int→Option Int} {s:ByteArray} {a m:Int} (h1:s∈plc n) (h2:a≤100000) (h3:0≤m):lq n f s a m=itr n f (ixN (plc n) s) m.toNat (fU n (ixN (plc n) s) a):=by
 unfold lq
 rw[if_neg (by simp[h1];omega)]
theorem wl1 {fd:Fd} {n:Network} {f:Int→Int→Option Int} (hn:NetOk n) (hf:Find fd n f) {s:ByteArray} {a:Int} (hs:s∈plc n) (ha:a≤100000) {x2:Int} (hx:0≤x2):∀(m k:Nat),k+m≤1000→
 dm G.real TE.real n fd s a x2 m (k:Int) ((List.range k).map fun j=>itr n f (ixN (plc n) s) j (fU n (ixN (plc n) s) a))=some (.out ((List.range (k+m)).map fun j=>itr n f (ixN (plc n) s) j (fU n (ixN (plc n) s) a)))
 |0,k,_=>by rw[dm];rfl
 |m+1,k,h=>by
  have hi:=(cj hs).1
  rw[dm,xF hn hf s a (by omega),sO hs ha (by omega),af]
  simp only[ib,cP,iu,cO,ao,aP,bR,Int.toNat_natCast]
  rw[ff,en,if_neg (by omega),if_neg (by omega),w64 (by omega) (by omega),aj (by simp;omega),show(k:Int)+1=((k+1:Nat):Int) from by omega]
  have:=wl1 hn hf hs ha hx m (k+1) (by omega)
  rw[List.range_succ,List.map_append,List.map_cons,List.map_nil] at this
  rw[this,show k+1+m=k+(m+1) by omega]
theorem wl2 {R:Nat→List Int} {P p:Nat} {x5:Int} (hP:P≤1000) (hp:∀m,p<(R m).length):∀(d fuel v:Nat),d<fuel→v+d≤P→(∀u,v≤u→u<v+d→lab (R u) p≠x5)→lab (R (v+d)) p=x5→
 fk G.real TE.real (p:Int) x5 ((List.range (P+1)).map R) fuel (v:Int)=some ((v+d:Nat):Int)
 |d,0,v,h,_,_,_=>absurd h (Nat.not_lt_zero d)
 |d,fuel+1,v,h,h1,h2,h3=>by
  have g:((List.range (P+1)).map R)[v]?=some (R v):=by
   rw[List.getElem?_map,List.getElem?_range (by omega)];rfl
  have hp1:=hp v
  rw[fk]
  simp only[cw,Int.toNat_natCast,pS,cO,ib,ao,bR]
  rw[ax g,aj (by simp;omega),aj (by omega),ax (cU hp1)]
  cases d with
  |zero=>rw[if_pos (show lab (R v) p=x5 from h3)];rfl
  |succ d=>
   rw[if_neg (h2 v (by omega) (by omega)),w64 (by omega) (by omega),show(v:Int)+1=((v+1:Nat):Int) from by omega,wl2 hP hp d fuel (v+1) (by omega) (by omega) (fun u g1 g2=>h2 u (by omega) (by omega)) (by rw[show v+1+d=v+(d+1) by omega];exact h3),show v+1+d=v+(d+1) by omega]
theorem xC {n:Network} {f:Int→Int→Option Int} {st:Nat} {best:List Int} {x:ByteArray} {e:Int} {t:Trip} (h:stF n f st best x e n.Legs 0=some t):0≤t.Leg∧t.Leg<n.Legs.length:=by
 obtain⟨j,z,q1,q2,q3,q4⟩:=p8 (n:=n) (f:=f) (st:=st) n.Legs 0 (by simp) h
 have hj:j<n.Legs.length:=by
  rcases Nat.lt_or_ge j n.Legs.length with hh|hh
  ·exact hh
  ·rw[List.getElem?_eq_none hh] at q1;cases q1
 omega
theorem wl3 {fd:Fd} {n:Network} {f:Int→Int→Option Int} (hn:NetOk n) (hf:Find fd n f) {s:ByteArray} (hs:s∈plc n) {b0:List Int} (hl:b0.length=(plc n).length) (hb:∀i,lab b0 i≤100000) {P:Nat} (hP:P≤1000):∀(k fuel:Nat) (x:ByteArray) (e:Int) (acc r:List Trip),k<fuel→k≤P→x∈plc n→acc.length+k≤1000→chF n f (ixN (plc n) s) b0 k x e acc.reverse=some r→
 ei G.real TE.real n fd s (plc n) ((List.range (P+1)).map fun j=>itr n f (ixN (plc n) s) j b0) fuel ((ixN (plc n) x:Nat):Int) e (k:Int) acc=some (.out r.reverse)
 |k,0,x,e,acc,r,h,_,_,_,_=>absurd h (Nat.not_lt_zero k)
 |0,fuel+1,x,e,acc,r,h,h1,hx,h2,hc=>by
  rw[chF] at hc
  cases hc
  rw[ei]
  simp only[cP,ao]
  rw[if_neg (by omega),List.reverse_reverse]
 |k+1,fuel+1,x,e,acc,r,h,h1,hx,h2,hc=>by
  have hok:FOk n f:=⟨hn,hf.ok⟩
  have pl:=dT n
  have hlen:=hn.len
  have g:((List.range (P+1)).map fun j=>itr n f (ixN (plc n) s) j b0)[k]?=some (itr n f (ixN (plc n) s) k b0):=by
   rw[List.getElem?_map,List.getElem?_range (by omega)];rfl
  rw[chF] at hc
  rw[ei]
  have hwr:G.real.wrap .i64 (G.real.sub ((k+1:Nat):Int) 1)=(k:Int):=by rw[i5,w64 (by omega) (by omega)];omega
  simp only[cP,ao,hwr,cw,Int.toNat_natCast]
  rw[if_pos (by omega),ax g,aj (by simp;omega)]
  unfold kY
  have hl2:=(ff (n:=n) (f:=f) (st:=ixN (plc n) s) k b0).trans hl
  have hb2:=vL (st:=ixN (plc n) s) hok k hl hb
  rw[show(0:Int)=((0:Nat):Int) from rfl,Ar hn hf hl2 hb2 hs hx e n.Legs 0 (by simp),af]
  cases ht:stF n f (ixN (plc n) s) (itr n f (ixN (plc n) s) k b0) x e n.Legs ((0:Nat):Int) with
  |none=>rw[show((0:Nat):Int)=0 from rfl] at ht;rw[ht] at hc;cases hc
  |some t=>
   rw[show((0:Nat):Int)=0 from rfl] at ht
   rw[ht] at hc
   obtain⟨t2,t3⟩:=xC ht
   have hfm:(lgOf n t.Leg).From∈plc n:=(c7 n _).2 ⟨_,kL t2 t3,.inl rfl⟩
   have hi:=(cj hfm).1
   simp only[Au,aP,af,dK]
   rw[aj (by simp;omega),aj (by omega),ax (d9 t2 t3)]
   simp only[nt (show(plc n).length≤4194304 by omega),gN hfm,cO]
   rw[aj (by simp;omega),aj (by omega),Int.toNat_natCast,ax (cU (by omega))]
   refine wl3 hn hf hs hl hb hP k fuel _ _ _ r (by omega) (by omega) hfm (by simp;omega) ?_
   rw[List.reverse_append]
   exact hc
theorem wl4 (y:List Trip) (hy:y.length≤2000):∀(k fuel:Nat) (acc:List Trip),k<fuel→k≤y.length→acc.length+k≤2000→
 eu G.real TE.real y fuel acc ((k:Int)-1)=some (acc++(y.take k).reverse)
 |k,0,acc,h,_,_=>absurd h (Nat.not_lt_zero k)
 |0,fuel+1,acc,h,h1,h2=>by
  rw[eu]
  simp only[nm,ao]
  rw[if_neg (by omega)];simp
 |k+1,fuel+1,acc,h,h1,h2=>by
  rw[eu]
  simp only[nm,ao,cw,i5,aP,pH]
  rw[show((k+1:Nat):Int)-1=(k:Int) from by omega,if_pos (by omega),aj (by omega),Int.toNat_natCast,ax (List.getElem?_eq_getElem (show k<y.length by omega)),aj (by simp;omega),w64 (by omega) (by omega),wl4 y hy k fuel _ (by omega) (by omega) (by simp;omega)]
  congr 1
  rw[List.take_add_one,List.getElem?_eq_getElem (show k<y.length by omega),List.reverse_append]
  simp
end Go.Vs
namespace Go.Vs
open Go.IntWalk
theorem sl1 {n:Network} {b:List Booking} {c:List Trip} {s:ByteArray} {a w:Int} {R:Nat→List Int} {p:Nat} {x5:Int} (hR:∀m:Nat,bV G.real TE.real n b c s a w (m:Int)=some (R m)∨1000<m) (hp:∀m,p<(R m).length):∀(d fuel v:Nat),d<fuel→v+d≤1000→(∀u,v≤u→u<v+d→lab (R u) p≠x5)→lab (R (v+d)) p=x5→
 du G.real TE.real n b c s a w (p:Int) x5 fuel (v:Int)=some ((v+d:Nat):Int)
 |d,0,v,h,_,_,_=>absurd h (Nat.not_lt_zero d)
 |d,fuel+1,v,h,h1,h2,h3=>by
  have hp1:=hp v
  have hr:bV G.real TE.real n b c s a w (v:Int)=some (R v):=by
   rcases hR v with hr|hr
   ·exact hr
   ·omega
  rw[du,hr,af]
  simp only[cw,Int.toNat_natCast,cO,ib,ao,bR]
  rw[aj (by omega),ax (cU hp1)]
  cases d with
  |zero=>rw[if_pos (show lab (R v) p=x5 from h3)];rfl
  |succ d=>
   rw[if_neg (h2 v (by omega) (by omega)),w64 (by omega) (by omega),show(v:Int)+1=((v+1:Nat):Int) from by omega,sl1 hR hp d fuel (v+1) (by omega) (by omega) (fun u g1 g2=>h2 u (by omega) (by omega)) (by rw[show v+1+d=v+(d+1) by omega];exact h3),show v+1+d=v+(d+1) by omega]
theorem sl2 {n:Network} {b:List Booking} {c:List Trip} {w a:Int} (hn:NetOk n) {s:ByteArray} {b0:List Int} (hl:b0.length=(plc n).length) (hb:∀i,lab b0 i≤100000)
 (hR:∀m:Nat,bV G.real TE.real n b c s a w (m:Int)=some (itr n (fF n c b w) (ixN (plc n) s) m b0)∨1000<m):∀(k fuel:Nat) (x:ByteArray) (e:Int) (acc r:List Trip),k<fuel→k≤1000→x∈plc n→acc.length+k≤1000→chF n (fF n c b w) (ixN (plc n) s) b0 k x e acc=some r→
 cH G.real TE.real n b c s a w (plc n) ((ixN (plc n) s:Nat):Int) fuel ((ixN (plc n) x:Nat):Int) acc e (k:Int)=some r
 |k,0,x,e,acc,r,h,_,_,_,_=>absurd h (Nat.not_lt_zero k)
 |0,fuel+1,x,e,acc,r,h,h1,hx,h2,hc=>by
  rw[chF] at hc
  cases hc
  rw[cH]
  simp only[cP,ao]
  rw[if_neg (by omega)]
 |k+1,fuel+1,x,e,acc,r,h,h1,hx,h2,hc=>by
  have hok:FOk n (fF n c b w):=⟨hn,(gf hn c b w).ok⟩
  have pl:=dT n
  have hlen:=hn.len
  have hr:bV G.real TE.real n b c s a w (k:Int)=some (itr n (fF n c b w) (ixN (plc n) s) k b0):=by
   rcases hR k with hr|hr
   ·exact hr
   ·omega
  rw[chF] at hc
  rw[cH]
  simp only[cP,ao,i5,cw]
  rw[if_pos (by omega),w64 (by omega) (by omega),show((k+1:Nat):Int)-1=(k:Int) from by omega,hr,af]
  unfold mF
  have hl2:=(ff (n:=n) (f:=fF n c b w) (st:=ixN (plc n) s) k b0).trans hl
  have hb2:=vL (st:=ixN (plc n) s) hok k hl hb
  rw[show(0:Int)=((0:Nat):Int) from rfl,AR hn hl2 hb2 hx e n.Legs 0 (by simp),af]
  cases ht:stF n (fF n c b w) (ixN (plc n) s) (itr n (fF n c b w) (ixN (plc n) s) k b0) x e n.Legs ((0:Nat):Int) with
  |none=>rw[show((0:Nat):Int)=0 from rfl] at ht;rw[ht] at hc;cases hc
  |some t=>
   rw[show((0:Nat):Int)=0 from rfl] at ht
   rw[ht] at hc
   obtain⟨t2,t3⟩:=xC ht
   have hfm:(lgOf n t.Leg).From∈plc n:=(c7 n _).2 ⟨_,kL t2 t3,.inl rfl⟩
   have hi:=(cj hfm).1
   simp only[Au,aP,af]
   rw[aj (by simp;omega),aj (by omega),ax (d9 t2 t3)]
   simp only[tG (show(plc n).length≤4194304 by omega),gN hfm,cO]
   rw[aj (by omega),Int.toNat_natCast,ax (cU (by omega))]
   exact sl2 hn hl hb hR k fuel _ _ _ r (by omega) (by omega) hfm (by simp;omega) hc
end Go.Vs
namespace Go.Vs
open Go.IntWalk
def Path (n:Network) (p:ByteArray):ByteArray→Int→List Trip→Prop
 |x,_,[]=>x=p
 |x,a,t::l=>runsB n t.Leg t.Day=true∧(lgOf n t.Leg).From=x∧a≤stN n t.Leg t.Day∧Path n p (lgOf n t.Leg).To (enN n t.Leg t.Day+n.Change) l
theorem mQ {n:Network} {f:Int→Int→Option Int} {st:Nat} (h:FOk n f):∀(m:Nat) {best:List Int} {i:Nat},best.length=(plc n).length→0≤lab best i→0≤lab (itr n f st m best) i∧lab (itr n f st m best) i≤lab best i
 |0,best,i,_,h0=>⟨h0,Int.le_refl _⟩
 |m+1,best,i,hl,h0=>by
  have h1:=qG (st:=st) h hl h0
  have h2:=mQ (st:=st) h m (iD.trans hl) h1.1
  exact⟨h2.1,Int.le_trans h2.2 h1.2⟩
theorem xz {n:Network} {f:Int→Int→Option Int} {st:Nat} (h:FOk n f) {c:Int}:∀(m:Nat) {best:List Int},best.length=(plc n).length→(∀i,0≤lab best i→c≤lab best i)→∀i,0≤lab (itr n f st m best) i→c≤lab (itr n f st m best) i
 |0,best,_,hb,i,h0=>hb i h0
 |m+1,best,hl,hb,i,h0=>xz h m (iD.trans hl) (fun j hj=>by
   rcases(gW (st:=st) h hl j).1 with e|⟨k,z,e,g1,g2,g3,g4,g5⟩
   ·rw[e] at hj ⊢;exact hb j hj
   ·obtain⟨q1,q2,_⟩:=iW h g3
    have:=hb _ q1
    omega) i h0
theorem w8 {n:Network} {f:Int→Int→Option Int} {st:Nat} {best:List Int} {x:ByteArray} {e:Int}:∀(ls:List Leg) (k:Nat) {t:Trip},n.Legs.drop k=ls→stF n f st best x e ls (k:Int)=some t→
 ∃(z:Leg),lgOf n t.Leg=z∧z∈n.Legs∧0≤t.Leg∧t.Leg<n.Legs.length∧z.To=x∧dyv n f st best z t.Leg=some t.Day∧enN n t.Leg t.Day=e
 |[],k,t,_,h=>by rw[stF] at h;cases h
 |z::ls,k,t,hd,h=>by
  have hk:k<n.Legs.length:=by
   have:=congrArg List.length hd
   simp at this;omega
  have hz:n.Legs[k]?=some z:=by
   have:(n.Legs.drop k)[0]?=some z:=by rw[hd];rfl
   simpa using this
  have hd2:n.Legs.drop (k+1)=ls:=by
   have:=congrArg List.tail hd
   simpa using this
  have ih:stF n f st best x e ls ((k:Int)+1)=some t→_:=fun h=>w8 ls (k+1) hd2 (by rw[←h];rfl)
  rw[stF] at h
  split at h
  ·rename_i hto
   split at h
   ·rename_i d hdv
    split at h
    ·rename_i he
     cases h
     have hl:=d9 (n:=n) (l:=(k:Int)) (by omega) (by omega)
     rw[Int.toNat_natCast,hz] at hl
     exact⟨z,(Option.some.inj hl).symm,List.mem_of_getElem? hz,by show(0:Int)≤(k:Int);omega,by show(k:Int)<_;omega,hto,hdv,he⟩
    ·exact ih h
   ·exact ih h
  ·exact ih h
end Go.Vs
