/- Part of the proofs of this seat's laws: Way2. No condition. -/
import Derived.Test.YtolplompnmammaaGreatDoorWays
import Derived.Test.YtolplompnmammaaGreatDoorLab
import Derived.Test.YtolplompnmammaaGreatDoorLaa
set_option linter.unusedVariables false
set_option linter.unusedSimpArgs false
set_option linter.unusedSectionVars false
namespace Go.Vs
open Go.IntWalk
theorem Do {l:List ByteArray} {x y:ByteArray} (hx:x∈l) (hy:y∈l) (h:ixN l x=ixN l y):x=y:=by
 have h1:=(eQ hx).2
 have h2:=(eQ hy).2
 rw[h,h2] at h1
 exact(Option.some.inj h1).symm
section
variable {n:Network} {f:Int→Int→Option Int} {st:Nat}
def dyv (n:Network) (f:Int→Int→Option Int) (st:Nat) (best:List Int) (z:Leg) (v:Int):Option Int:=
 if lab best (aI n z)<0 then none else f v (rdy n (lab best (aI n z)) (decide (aI n z=st)))
theorem xW (best:List Int) (z:Leg) (v:Int):via n f st best z v=(dyv n f st best z v).map (enN n v):=by
 unfold via dyv
 split<;>rfl
def stF (n:Network) (f:Int→Int→Option Int) (st:Nat) (best:List Int) (x:ByteArray) (e:Int):List Leg→Int→Option Trip
 |[],_=>none
 |z::ls,v=>if z.To=x then(match dyv n f st best z v with|some d=>if enN n v d=e then some ⟨v,d⟩ else stF n f st best x e ls (v+1)|none=>stF n f st best x e ls (v+1)) else stF n f st best x e ls (v+1)
theorem yz {best:List Int} {x:ByteArray} {e:Int}:∀(ls:List Leg) (k:Nat),n.Legs.drop k=ls→(∃(j:Nat) (z:Leg),k≤j∧n.Legs[j]?=some z∧z.To=x∧via n f st best z (j:Int)=some e)→
 ∃t,stF n f st best x e ls (k:Int)=some t
 |[],k,hd,h=>by
  obtain⟨j,z,h1,h2,_⟩:=h
  have:=List.drop_eq_nil_iff.1 hd
  rw[List.getElem?_eq_none (by omega)] at h2
  cases h2
 |z::ls,k,hd,h=>by
  have hz:n.Legs[k]?=some z:=by
   have:(n.Legs.drop k)[0]?=some z:=by rw[hd];rfl
   simpa using this
  have hd2:n.Legs.drop (k+1)=ls:=by
   have:=congrArg List.tail hd
   simpa using this
  have hk1:(k:Int)+1=((k+1:Nat):Int):=by omega
  obtain⟨j,y,h1,h2,h3,h4⟩:=h
  have ih:=fun hj=>yz (best:=best) (x:=x) (e:=e) ls (k+1) hd2 ⟨j,y,hj,h2,h3,h4⟩
  rw[stF,hk1]
  by_cases hj:j=k
  ·subst hj
   rw[hz] at h2
   cases h2
   rw[if_pos h3]
   rw[xW] at h4
   cases hdv:dyv n f st best z (j:Int) with
   |none=>rw[hdv] at h4;cases h4
   |some d=>
    rw[hdv] at h4
    have h5:enN n (j:Int) d=e:=Option.some.inj h4
    exact⟨⟨(j:Int),d⟩,if_pos h5⟩
  ·have ih:=ih (by omega)
   split
   ·split
    ·split
     ·exact⟨_,rfl⟩
     ·exact ih
    ·exact ih
   ·exact ih
theorem qn {best:List Int} {x:ByteArray} {e:Int}:∀(ls:List Leg) (k:Nat) {t:Trip},n.Legs.drop k=ls→stF n f st best x e ls (k:Int)=some t→
 ∃(j:Nat) (z:Leg),n.Legs[j]?=some z∧z.To=x∧t.Leg=(j:Int)∧via n f st best z (j:Int)=some e
 |[],k,t,hd,h=>by rw[stF] at h;cases h
 |z::ls,k,t,hd,h=>by
  have hz:n.Legs[k]?=some z:=by
   have:(n.Legs.drop k)[0]?=some z:=by rw[hd];rfl
   simpa using this
  have hd2:n.Legs.drop (k+1)=ls:=by
   have:=congrArg List.tail hd
   simpa using this
  have hk1:(k:Int)+1=((k+1:Nat):Int):=by omega
  have ih:=qn (best:=best) (x:=x) (e:=e) ls (k+1) (t:=t) hd2
  rw[stF,hk1] at h
  split at h
  ·rename_i h1
   split at h
   ·rename_i d hdv
    split at h
    ·rename_i h2
     cases h
     exact⟨k,z,hz,h1,rfl,by rw[xW,hdv];exact congrArg some h2⟩
    ·exact ih h
   ·exact ih h
  ·exact ih h
def chF (n:Network) (f:Int→Int→Option Int) (st:Nat) (b0:List Int):Nat→ByteArray→Int→List Trip→Option (List Trip)
 |0,_,_,acc=>some acc
 |k+1,x,e,acc=>match stF n f st (itr n f st k b0) x e n.Legs 0 with
  |some t=>chF n f st b0 k (ej n t.Leg).From (lab (itr n f st k b0) (ixN (plc n) (ej n t.Leg).From)) (t::acc)
  |none=>none
theorem Dq (h:FOk n f) {best:List Int} (hl:best.length=(plc n).length) {x:ByteArray} (hx:x∈plc n) (hc:lab (rnd n f st best) (ixN (plc n) x)≠lab best (ixN (plc n) x)):
 ∃t,stF n f st best x (lab (rnd n f st best) (ixN (plc n) x)) n.Legs 0=some t∧0≤t.Leg∧t.Leg<n.Legs.length∧(∀b,b.length=(plc n).length→best=rnd n f st b→lab (rnd n f st b) (ixN (plc n) (ej n t.Leg).From)≠lab b (ixN (plc n) (ej n t.Leg).From)):=by
 rcases(i5 (st:=st) h hl (ixN (plc n) x)).1 with e|⟨j,z,e,g1,g2,g3,g4,g5⟩
 ·exact absurd e hc
 ·have hm:=List.mem_of_getElem? g1
  have hto:z.To=x:=Do ((e8 n _).2 ⟨z,hm,.inr rfl⟩) hx g2
  obtain⟨t,ht⟩:=yz (n:=n) (f:=f) (st:=st) (best:=best) (x:=x) (e:=e) n.Legs 0 (by simp) ⟨j,z,by omega,g1,hto,g3⟩
  obtain⟨j2,z2,q1,q2,q3,q4⟩:=qn (n:=n) (f:=f) (st:=st) n.Legs 0 (by simp) ht
  have hj:j2<n.Legs.length:=by
   rcases Nat.lt_or_ge j2 n.Legs.length with hh|hh
   ·exact hh
   ·rw[List.getElem?_eq_none hh] at q1;cases q1
  have hz2:ej n t.Leg=z2:=by
   have:=ec (n:=n) (l:=t.Leg) (by omega) (by omega)
   rw[q3,Int.toNat_natCast,q1] at this
   rw[q3]
   exact(Option.some.inj this).symm
  refine⟨t,by rw[g4];exact ht,by omega,by omega,fun b hb hbe he=>?_⟩
  rw[hz2] at he
  have v2:via n f st b z2 (j2:Int)=some e:=by
   rw[←sC (b1:=best) (b2:=b) (by rw[hbe];exact he)];exact q4
  refine(i5 (st:=st) h hb (ixN (plc n) x)).2 j2 z2 e q1 (by unfold bI;rw[q2]) v2 ?_
  rw[←hbe]
  exact g5
theorem Bf (h:FOk n f) {b0:List Int} (hl:b0.length=(plc n).length):∀(k:Nat) {x:ByteArray} (acc:List Trip),x∈plc n→(∀j,k=j+1→lab (itr n f st (j+1) b0) (ixN (plc n) x)≠lab (itr n f st j b0) (ixN (plc n) x))→
 ∃r,chF n f st b0 k x (lab (itr n f st k b0) (ixN (plc n) x)) acc=some r∧r.length=acc.length+k
 |0,x,acc,_,_=>⟨acc,rfl,rfl⟩
 |k+1,x,acc,hx,hc=>by
  have hc:=hc k rfl
  rw[gU] at hc ⊢
  obtain⟨t,t1,t2,t3,t4⟩:=Dq h ((iW k _).trans hl) hx hc
  have hm:=tT t2 t3
  obtain⟨r,r1,r2⟩:=Bf h hl k (x:=(ej n t.Leg).From) (t::acc) ((e8 n _).2 ⟨_,hm,.inl rfl⟩) (fun j hj=>by
   subst hj
   have:=t4 (itr n f st j b0) ((iW j _).trans hl) (gU j b0)
   rw[gU];exact this)
  refine⟨r,?_,by rw[r2];simp;omega⟩
  rw[chF,t1]
  exact r1
end
end Go.Vs
namespace Go.Vs
open Go.IntWalk
theorem B6 (Q:Nat→Prop):∀(m:Nat),Q m→∃y,y≤m∧Q y∧∀u,u<y→¬Q u
 |0,h=>⟨0,Nat.le_refl _,h,fun u hu=>absurd hu (Nat.not_lt_zero u)⟩
 |m+1,h=>by
  rcases Classical.em (∃u,u<m+1∧Q u) with⟨u,h1,h2⟩|h3
  ·rcases Nat.lt_or_ge u m with hu|hu
   ·obtain⟨y,y1,y2,y3⟩:=B6 (fun k=>k≤m∧Q k∨k=m) m (.inr rfl)
    rcases Classical.em (∃u,u≤m∧Q u) with h4|h4
    ·obtain⟨u,g1,g2⟩:=h4
     rcases y2 with⟨_,y2⟩|y2
     ·exact⟨y,by omega,y2,fun v hv hq=>y3 v hv (.inl ⟨by omega,hq⟩)⟩
     ·subst y2
      rcases Nat.lt_or_ge u y with hh|hh
      ·exact absurd (.inl ⟨g1,g2⟩) (y3 u hh)
      ·obtain rfl:u=y:=by omega
       exact⟨u,by omega,g2,fun v hv hq=>y3 v hv (.inl ⟨by omega,hq⟩)⟩
    ·exact absurd ⟨u,by omega,h2⟩ h4
   ·obtain rfl:u=m:=by omega
    obtain⟨y,y1,y2,y3⟩:=B6 Q u h2
    exact⟨y,by omega,y2,y3⟩
  ·exact⟨m+1,Nat.le_refl _,h,fun u hu hq=>h3 ⟨u,hu,hq⟩⟩
theorem CG {n:Network} {f:Int→Int→Option Int} {s:ByteArray} {a m:Int} (h1:s∈plc n) (h2:a≤100000) (h3:0≤m):ln n f s a m=itr n f (ixN (plc n) s) m.toNat (kr n (ixN (plc n) s) a):=by
 unfold ln
 rw[if_neg (by simp[h1];omega)]
theorem Dt {n:Network} {f:Int→Int→Option Int} {st:Nat} {best:List Int} {x:ByteArray} {e:Int} {t:Trip} (h:stF n f st best x e n.Legs 0=some t):0≤t.Leg∧t.Leg<n.Legs.length:=by
 obtain⟨j,z,q1,q2,q3,q4⟩:=qn (n:=n) (f:=f) (st:=st) n.Legs 0 (by simp) h
 have hj:j<n.Legs.length:=by
  rcases Nat.lt_or_ge j n.Legs.length with hh|hh
  ·exact hh
  ·rw[List.getElem?_eq_none hh] at q1;cases q1
 omega
end Go.Vs
namespace Go.Vs
open Go.IntWalk
theorem DB {n:Network} (hn:NetOk n) (l at_:Int):fA G.real TE.real n l at_=some (dyO (fN n l at_)):=Cz hn l at_
theorem yH {n:Network} (hn:NetOk n) {best:List Int} (hl:best.length=(plc n).length) (hb:∀i,lab best i≤100000) {st:Nat} {x:ByteArray} (hx:x∈plc n) (e:Int):∀(ls:List Leg) (k:Nat),n.Legs.drop k=ls→
 cH G.real TE.real n (plc n) best (st:Int) ((ixN (plc n) x:Nat):Int) e ls (k:Int)=some (match stF n (fN n) st best x e ls (k:Int) with|some t=>.ret t|none=>.out ())
 |[],k,_=>by rw[cH,stF]
 |z::ls,k,hd=>by
  have hlen:=hn.len
  have hk:k<n.Legs.length:=by
   have:=congrArg List.length hd
   simp at this;omega
  have hz:n.Legs[k]?=some z:=by
   have:(n.Legs.drop k)[0]?=some z:=by rw[hd];rfl
   simpa using this
  have hd2:n.Legs.drop (k+1)=ls:=by
   have:=congrArg List.tail hd
   simpa using this
  have hm:=List.mem_of_getElem? hz
  obtain⟨ha,hbz⟩:=lx hm
  have pl:=dp n
  have hfm:z.From∈plc n:=(e8 n _).2 ⟨z,hm,.inl rfl⟩
  have e1:ix (plc n) z.From=(aI n z:Int):=kq hfm
  have hk1:(k:Int)+1=((k+1:Nat):Int):=by omega
  rw[cH,stF]
  simp only[bd,p8 (show(plc n).length≤4194304 by omega),e1,bS,Int.toNat_natCast,eh,jU,bB,eu,fk,ao]
  rw[ak (by omega),aw (eQ hx).2,w64 (n:=(k:Int)+1) (by omega) (by omega),hk1,yH hn hl hb hx e ls (k+1) hd2]
  by_cases h0:z.To=x
  ·rw[if_pos h0,if_pos h0,ak (by omega),aw (fC (l:=best) (by omega))]
   unfold dyv
   by_cases h1:lab best (aI n z)<0
   ·rw[if_pos h1,if_pos h1]
   ·rw[if_neg h1,if_neg h1,ak (by omega)]
    have hxx:=hb (aI n z)
    have hc:=hn.change
    have er:fK G.real TE.real n (lab best (aI n z)) (decide ((aI n z:Int)=(st:Int)))=rdy n (lab best (aI n z)) (decide (aI n z=st)):=by
     unfold fK rdy
     simp only[bB,ao]
     rw[w64 (by omega) (by omega)]
     by_cases hs:aI n z=st
     ·rw[if_pos (by omega),if_pos (by simp[hs])]
     ·rw[if_neg (by omega),if_neg (by simp[hs])]
    rw[er,DB hn,ag]
    cases hfv:fN n (k:Int) (rdy n (lab best (aI n z)) (decide (aI n z=st))) with
    |none=>
     rw[if_neg (show¬(0:Int)≤dyO none by show¬(0:Int)≤ -1;omega)]
    |some d=>
     obtain⟨r1,r2,r3,r4⟩:=dM (n:=n) (by omega) ((fR hn).ok hfv).1
     rw[if_pos (show(0:Int)≤dyO (some d) from r3),show dyO (some d)=d from rfl,wm hn r1 r2 r3 r4,ag]
     by_cases h2:enN n (k:Int) d=e
     ·simp only[if_pos h2]
     ·simp only[if_neg h2]
  ·rw[if_neg h0,if_neg h0]
theorem Ga {n:Network} {s:ByteArray} {a:Int} {R:Nat→List Int} {p:Nat} {x5:Int} (hR:∀m:Nat,aZ G.real TE.real n s a (m:Int)=some (R m)∨1000<m) (hp:∀m,p<(R m).length):∀(d fuel v:Nat),d<fuel→v+d≤1000→(∀u,v≤u→u<v+d→lab (R u) p≠x5)→lab (R (v+d)) p=x5→
 d9 G.real TE.real n s a x5 (p:Int) fuel (v:Int)=some ((v+d:Nat):Int)
 |d,0,v,h,_,_,_=>absurd h (Nat.not_lt_zero d)
 |d,fuel+1,v,h,h1,h2,h3=>by
  have hp1:=hp v
  have hr:aZ G.real TE.real n s a (v:Int)=some (R v):=by
   rcases hR v with hr|hr
   ·exact hr
   ·omega
  rw[d9,hr,ag]
  simp only[bS,Int.toNat_natCast,dP,eu,ao,bB]
  rw[ak (by omega),aw (fC hp1)]
  cases d with
  |zero=>rw[if_pos (show lab (R v) p=x5 from h3)];rfl
  |succ d=>
   rw[if_neg (h2 v (by omega) (by omega)),w64 (by omega) (by omega),show(v:Int)+1=((v+1:Nat):Int) from by omega,Ga hR hp d fuel (v+1) (by omega) (by omega) (fun u g1 g2=>h2 u (by omega) (by omega)) (by rw[show v+1+d=v+(d+1) by omega];exact h3),show v+1+d=v+(d+1) by omega]
theorem Fb {n:Network} {a:Int} (hn:NetOk n) {s:ByteArray} {b0:List Int} (hl:b0.length=(plc n).length) (hb:∀i,lab b0 i≤100000)
 (hR:∀m:Nat,aZ G.real TE.real n s a (m:Int)=some (itr n (fN n) (ixN (plc n) s) m b0)∨1000<m):∀(k fuel:Nat) (x:ByteArray) (e:Int) (acc r:List Trip),k<fuel→k≤1000→x∈plc n→acc.length+k≤1000→chF n (fN n) (ixN (plc n) s) b0 k x e acc=some r→
 dA G.real TE.real n s a (plc n) ((ixN (plc n) s:Nat):Int) fuel e ((ixN (plc n) x:Nat):Int) acc (k:Int)=some r
 |k,0,x,e,acc,r,h,_,_,_,_=>absurd h (Nat.not_lt_zero k)
 |0,fuel+1,x,e,acc,r,h,h1,hx,h2,hc=>by
  rw[chF] at hc
  cases hc
  rw[dA]
  simp only[eh,ao]
  rw[if_neg (by omega)]
 |k+1,fuel+1,x,e,acc,r,h,h1,hx,h2,hc=>by
  have hok:FOk n (fN n):=⟨hn,(fR hn).ok⟩
  have pl:=dp n
  have hlen:=hn.len
  have hr:aZ G.real TE.real n s a (k:Int)=some (itr n (fN n) (ixN (plc n) s) k b0):=by
   rcases hR k with hr|hr
   ·exact hr
   ·omega
  rw[chF] at hc
  rw[dA]
  simp only[eh,ao,lT,bS]
  rw[if_pos (by omega),w64 (by omega) (by omega),show((k+1:Nat):Int)-1=(k:Int) from by omega,hr,ag]
  unfold mW
  have hl2:=(iW (n:=n) (f:=fN n) (st:=ixN (plc n) s) k b0).trans hl
  have hb2:=Cb (st:=ixN (plc n) s) hok k hl hb
  rw[show(0:Int)=((0:Nat):Int) from rfl,yH hn hl2 hb2 hx e n.Legs 0 (by simp),ag]
  cases ht:stF n (fN n) (ixN (plc n) s) (itr n (fN n) (ixN (plc n) s) k b0) x e n.Legs ((0:Nat):Int) with
  |none=>rw[show((0:Nat):Int)=0 from rfl] at ht;rw[ht] at hc;cases hc
  |some t=>
   rw[show((0:Nat):Int)=0 from rfl] at ht
   rw[ht] at hc
   obtain⟨t2,t3⟩:=Dt ht
   have hfm:(ej n t.Leg).From∈plc n:=(e8 n _).2 ⟨_,tT t2 t3,.inl rfl⟩
   have hi:=(eQ hfm).1
   simp only[D9,bd,ag]
   rw[ak (by simp;omega),ak (by omega),aw (ec t2 t3)]
   simp only[p8 (show(plc n).length≤4194304 by omega),kq hfm,dP]
   rw[ak (by omega),Int.toNat_natCast,aw (fC (by omega))]
   exact Fb hn hl hb hR k fuel _ _ _ r (by omega) (by omega) hfm (by simp;omega) hc
end Go.Vs
namespace Go.Vs
open Go.IntWalk
theorem fw_s {n:Network} (ht:n.tot≤1048576) (s p:ByteArray) (a:Int):∃r,jA G.real TE.real n s p a=some r∧r.1.length≤40:=by
 have pl:=dp n
 have hlen:=eo ht
 unfold jA
 rw[sP (by omega),ea_s ht hlen]
 simp only[ag,bd,p8 (show(plc n).length≤4194304 by omega)]
 simp only[eh,ao]
 cases hb:netB n with
 |false=>
  have e:eaB n s p a= -1:=by unfold eaB;rw[if_neg (by simp[hb])]
  refine⟨([],false),?_,by simp⟩
  rw[e]
  rfl
 |true=>
  have hn:=gZ ht hb
  have hlen:=hn.len
  have hf:=fR hn
  have hok:FOk n (fN n):=⟨hn,hf.ok⟩
  have hea:eaB n s p a=if s∈plc n∧p∈plc n∧a≤100000 then lab (ln n (fN n) s a ((plc n).length:Nat)) (ixN (plc n) p) else-1:=by
   unfold eaB
   by_cases h:s∈plc n∧p∈plc n∧a≤100000
   ·rw[if_pos h,if_pos ⟨hb,h.1,h.2.2,h.2.1⟩]
   ·rw[if_neg h,if_neg (fun q=>h ⟨q.2.1,q.2.2.2,q.2.2.1⟩)]
  by_cases hall:s∈plc n∧p∈plc n∧a≤100000
  ·obtain⟨h1,h2,h4⟩:=hall
   have hi:=eQ h1
   have hj:=eQ h2
   have hR:∀m:Int,0≤m→ln n (fN n) s a m=itr n (fN n) (ixN (plc n) s) m.toNat (kr n (ixN (plc n) s) a):=fun m hm=>CG h1 h4 hm
   have hll:=iI n (ixN (plc n) s) a
   have hlb:=tw (n:=n) hi.1 h4
   rw[show(0:Int)=((0:Nat):Int) from rfl]
   have hp:∀m,ixN (plc n) p<(itr n (fN n) (ixN (plc n) s) m (kr n (ixN (plc n) s) a)).length:=fun m=>by rw[iW,hll];exact hj.1
   rw[if_pos ⟨h1,h2,h4⟩] at hea
   rw[hea,hR _ (by omega),Int.toNat_natCast,kq h2,kq h1]
   by_cases h3:lab (itr n (fN n) (ixN (plc n) s) (plc n).length (kr n (ixN (plc n) s) a)) (ixN (plc n) p)<((0:Nat):Int)
   ·exact⟨([],false),by rw[if_pos h3],by simp⟩
   ·have hRS:∀m:Nat,aZ G.real TE.real n s a (m:Int)=some (itr n (fN n) (ixN (plc n) s) m (kr n (ixN (plc n) s) a))∨1000<m:=fun m=>by
     rcases Nat.lt_or_ge 1000 m with hm|hm
     ·exact .inr hm
     ·left;rw[Gc hn ht hb s a (by omega),hR _ (by omega),Int.toNat_natCast]
    obtain⟨y,y1,y2,y3⟩:=B6 (fun m=>lab (itr n (fN n) (ixN (plc n) s) m (kr n (ixN (plc n) s) a)) (ixN (plc n) p)=lab (itr n (fN n) (ixN (plc n) s) (plc n).length (kr n (ixN (plc n) s) a)) (ixN (plc n) p)) (plc n).length rfl
    have q2:=Ga (R:=fun m=>itr n (fN n) (ixN (plc n) s) m (kr n (ixN (plc n) s) a)) (p:=ixN (plc n) p) hRS hp y 1000000000 0 (by omega) (by omega) (fun u _ hu=>y3 u (by omega)) (by rw[Nat.zero_add];exact y2)
    rw[Nat.zero_add] at q2
    obtain⟨r,r1,r2⟩:=Bf hok hll y (x:=p) [] h2 (fun j hj=>by
     subst hj
     intro he
     exact y3 j (by omega) (he.symm.trans y2))
    rw[y2] at r1
    have q3:=Fb hn hll hlb hRS y 1000000000 p _ [] r (by omega) (by omega) h2 (by simp;omega) r1
    simp only[List.length_nil,Nat.zero_add] at r2
    exact⟨(r,true),by rw[if_neg h3,q2,ag,q3,ag],by simp;omega⟩
  ·rw[if_neg hall] at hea
   rw[hea,if_pos (by omega)]
   exact⟨([],false),rfl,by simp⟩
end Go.Vs
