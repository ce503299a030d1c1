/- Part of the proofs of this seat's laws: Way2. No condition. -/
import Derived.Test.YticpmdigfdpmfaaGreatWays
import Derived.Test.YticpmdigfdpmfaaGreatLab
import Derived.Test.YticpmdigfdpmfaaGreatLac
set_option linter.unusedVariables false
set_option linter.unusedSimpArgs false
set_option linter.unusedSectionVars false
namespace Go.Vs
open Go.IntWalk
theorem qc {l:List ByteArray} {x y:ByteArray} (hx:x∈l) (hy:y∈l) (h:ixN l x=ixN l y):x=y:=by
 have h1:=(ci hx).2
 have h2:=(ci hy).2
 rw[h,h2] at h1
 exact(Option.some.inj h1).symm
section
variable {n:Network} {f:Int→Int→Option Int} {st:Nat}
def dyv (n:Network) (f:Int→Int→Option Int) (st:Nat) (best:List Int) (z:Leg) (v:Int):Option Int:=
 if lab best (aI n z)<0 then none else f v (rdy n (lab best (aI n z)) (decide (aI n z=st)))
theorem zm (best:List Int) (z:Leg) (v:Int):via n f st best z v=(dyv n f st best z v).map (enN n v):=by
 unfold via dyv
 split<;>rfl
def stF (n:Network) (f:Int→Int→Option Int) (st:Nat) (best:List Int) (x:ByteArray) (e:Int):List Leg→Int→Option Trip
 |[],_=>none
 |z::ls,v=>if z.To=x then(match dyv n f st best z v with|some d=>if enN n v d=e then some ⟨v,d⟩ else stF n f st best x e ls (v+1)|none=>stF n f st best x e ls (v+1)) else stF n f st best x e ls (v+1)
theorem yY {best:List Int} {x:ByteArray} {e:Int}:∀(ls:List Leg) (k:Nat),n.Legs.drop k=ls→(∃(j:Nat) (z:Leg),k≤j∧n.Legs[j]?=some z∧z.To=x∧via n f st best z (j:Int)=some e)→
 ∃t,stF n f st best x e ls (k:Int)=some t
 |[],k,hd,h=>by
  obtain⟨j,z,h1,h2,_⟩:=h
  have:=List.drop_eq_nil_iff.1 hd
  rw[List.getElem?_eq_none (by omega)] at h2
  cases h2
 |z::ls,k,hd,h=>by
  have hz:n.Legs[k]?=some z:=by
   have:(n.Legs.drop k)[0]?=some z:=by rw[hd];rfl
   simpa using this
  have hd2:n.Legs.drop (k+1)=ls:=by
   have:=congrArg List.tail hd
   simpa using this
  have hk1:(k:Int)+1=((k+1:Nat):Int):=by omega
  obtain⟨j,y,h1,h2,h3,h4⟩:=h
  have ih:=fun hj=>yY (best:=best) (x:=x) (e:=e) ls (k+1) hd2 ⟨j,y,hj,h2,h3,h4⟩
  rw[stF,hk1]
  by_cases hj:j=k
  ·subst hj
   rw[hz] at h2
   cases h2
   rw[if_pos h3]
   rw[zm] at h4
   cases hdv:dyv n f st best z (j:Int) with
   |none=>rw[hdv] at h4;cases h4
   |some d=>
    rw[hdv] at h4
    have h5:enN n (j:Int) d=e:=Option.some.inj h4
    exact⟨⟨(j:Int),d⟩,if_pos h5⟩
  ·have ih:=ih (by omega)
   split
   ·split
    ·split
     ·exact⟨_,rfl⟩
     ·exact ih
    ·exact ih
   ·exact ih
theorem rW {best:List Int} {x:ByteArray} {e:Int}:∀(ls:List Leg) (k:Nat) {t:Trip},n.Legs.drop k=ls→stF n f st best x e ls (k:Int)=some t→
 ∃(j:Nat) (z:Leg),n.Legs[j]?=some z∧z.To=x∧t.Leg=(j:Int)∧via n f st best z (j:Int)=some e
 |[],k,t,hd,h=>by rw[stF] at h;cases h
 |z::ls,k,t,hd,h=>by
  have hz:n.Legs[k]?=some z:=by
   have:(n.Legs.drop k)[0]?=some z:=by rw[hd];rfl
   simpa using this
  have hd2:n.Legs.drop (k+1)=ls:=by
   have:=congrArg List.tail hd
   simpa using this
  have hk1:(k:Int)+1=((k+1:Nat):Int):=by omega
  have ih:=rW (best:=best) (x:=x) (e:=e) ls (k+1) (t:=t) hd2
  rw[stF,hk1] at h
  split at h
  ·rename_i h1
   split at h
   ·rename_i d hdv
    split at h
    ·rename_i h2
     cases h
     exact⟨k,z,hz,h1,rfl,by rw[zm,hdv];exact congrArg some h2⟩
    ·exact ih h
   ·exact ih h
  ·exact ih h
def chF (n:Network) (f:Int→Int→Option Int) (st:Nat) (b0:List Int):Nat→ByteArray→Int→List Trip→Option (List Trip)
 |0,_,_,acc=>some acc
 |k+1,x,e,acc=>match stF n f st (itr n f st k b0) x e n.Legs 0 with
  |some t=>chF n f st b0 k (lgOf n t.Leg).From (lab (itr n f st k b0) (ixN (plc n) (lgOf n t.Leg).From)) (t::acc)
  |none=>none
theorem DP (h:FOk n f) {best:List Int} (hl:best.length=(plc n).length) {x:ByteArray} (hx:x∈plc n) (hc:lab (rnd n f st best) (ixN (plc n) x)≠lab best (ixN (plc n) x)):
 ∃t,stF n f st best x (lab (rnd n f st best) (ixN (plc n) x)) n.Legs 0=some t∧0≤t.Leg∧t.Leg<n.Legs.length∧(∀b,b.length=(plc n).length→best=rnd n f st b→lab (rnd n f st b) (ixN (plc n) (lgOf n t.Leg).From)≠lab b (ixN (plc n) (lgOf n t.Leg).From)):=by
 rcases(gU (st:=st) h hl (ixN (plc n) x)).1 with e|⟨j,z,e,g1,g2,g3,g4,g5⟩
 ·exact absurd e hc
 ·have hm:=List.mem_of_getElem? g1
  have hto:z.To=x:=qc ((db n _).2 ⟨z,hm,.inr rfl⟩) hx g2
  obtain⟨t,ht⟩:=yY (n:=n) (f:=f) (st:=st) (best:=best) (x:=x) (e:=e) n.Legs 0 (by simp) ⟨j,z,by omega,g1,hto,g3⟩
  obtain⟨j2,z2,q1,q2,q3,q4⟩:=rW (n:=n) (f:=f) (st:=st) n.Legs 0 (by simp) ht
  have hj:j2<n.Legs.length:=by
   rcases Nat.lt_or_ge j2 n.Legs.length with hh|hh
   ·exact hh
   ·rw[List.getElem?_eq_none hh] at q1;cases q1
  have hz2:lgOf n t.Leg=z2:=by
   have:=cL (n:=n) (l:=t.Leg) (by omega) (by omega)
   rw[q3,Int.toNat_natCast,q1] at this
   rw[q3]
   exact(Option.some.inj this).symm
  refine⟨t,by rw[g4];exact ht,by omega,by omega,fun b hb hbe he=>?_⟩
  rw[hz2] at he
  have v2:via n f st b z2 (j2:Int)=some e:=by
   rw[←ug (b1:=best) (b2:=b) (by rw[hbe];exact he)];exact q4
  refine(gU (st:=st) h hb (ixN (plc n) x)).2 j2 z2 e q1 (by unfold bI;rw[q2]) v2 ?_
  rw[←hbe]
  exact g5
theorem BE (h:FOk n f) {b0:List Int} (hl:b0.length=(plc n).length):∀(k:Nat) {x:ByteArray} (acc:List Trip),x∈plc n→(∀j,k=j+1→lab (itr n f st (j+1) b0) (ixN (plc n) x)≠lab (itr n f st j b0) (ixN (plc n) x))→
 ∃r,chF n f st b0 k x (lab (itr n f st k b0) (ixN (plc n) x)) acc=some r∧r.length=acc.length+k
 |0,x,acc,_,_=>⟨acc,rfl,rfl⟩
 |k+1,x,acc,hx,hc=>by
  have hc:=hc k rfl
  rw[g0] at hc ⊢
  obtain⟨t,t1,t2,t3,t4⟩:=DP h ((gi k _).trans hl) hx hc
  have hm:=ln t2 t3
  obtain⟨r,r1,r2⟩:=BE h hl k (x:=(lgOf n t.Leg).From) (t::acc) ((db n _).2 ⟨_,hm,.inl rfl⟩) (fun j hj=>by
   subst hj
   have:=t4 (itr n f st j b0) ((gi j _).trans hl) (g0 j b0)
   rw[g0];exact this)
  refine⟨r,?_,by rw[r2];simp;omega⟩
  rw[chF,t1]
  exact r1
end
theorem BA {fd:Fd} {n:Network} {f:Int→Int→Option Int} (hn:NetOk n) (hf:Find fd n f) {best:List Int} (hl:best.length=(plc n).length) (hb:∀i,lab best i≤100000) {s x:ByteArray} (hs:s∈plc n) (hx:x∈plc n) (e:Int):∀(ls:List Leg) (k:Nat),n.Legs.drop k=ls→
 bU G.real TE.real n fd (plc n) best s ((ixN (plc n) x:Nat):Int) e ls (k:Int)=some (match stF n f (ixN (plc n) s) best x e ls (k:Int) with|some t=>.ret (t,true)|none=>.out ())
 |[],k,_=>by rw[bU,stF]
 |z::ls,k,hd=>by
  have hlen:=hn.len
  have hk:k<n.Legs.length:=by
   have:=congrArg List.length hd
   simp at this;omega
  have hz:n.Legs[k]?=some z:=by
   have:(n.Legs.drop k)[0]?=some z:=by rw[hd];rfl
   simpa using this
  have hd2:n.Legs.drop (k+1)=ls:=by
   have:=congrArg List.tail hd
   simpa using this
  have hm:=List.mem_of_getElem? hz
  obtain⟨ha,hbz⟩:=km hm
  have pl:=da n
  have hfm:z.From∈plc n:=(db n _).2 ⟨z,hm,.inl rfl⟩
  have e1:ix (plc n) z.From=(aI n z:Int):=iD hfm
  have hk1:(k:Int)+1=((k+1:Nat):Int):=by omega
  rw[bU,stF]
  simp only[aN,pK (show(plc n).length≤4194304 by omega),e1,bo,Int.toNat_natCast,dc,bh,de,fE,al]
  rw[ag (by omega),ar (ci hx).2,w64 (n:=(k:Int)+1) (by omega) (by omega),hk1,BA hn hf hl hb hs hx e ls (k+1) hd2]
  by_cases h0:z.To=x
  ·rw[if_pos h0,if_pos h0,ag (by omega),ar (du (l:=best) (by omega))]
   unfold dyv
   by_cases h1:lab best (aI n z)<0
   ·rw[if_pos h1,if_pos h1]
   ·rw[if_neg h1,if_neg h1,ag (by omega)]
    have hxx:=hb (aI n z)
    have hc:=hn.change
    have er:fP G.real TE.real n (lab best (aI n z)) (decide (z.From=s))=rdy n (lab best (aI n z)) (decide (aI n z=ixN (plc n) s)):=by
     unfold fP rdy
     simp only[bh,al]
     rw[w64 (by omega) (by omega)]
     by_cases hss:z.From=s
     ·rw[if_pos hss,if_pos (by simp[aI,hss])]
     ·rw[if_neg hss,if_neg (by simp only[decide_eq_true_eq];exact fun h=>hss (qc hfm hs h))]
    rw[er,hf.call,ae]
    cases hfv:f (k:Int) (rdy n (lab best (aI n z)) (decide (aI n z=ixN (plc n) s))) with
    |none=>rfl
    |some d=>
     obtain⟨r1,r2,r3,r4⟩:=cw (n:=n) (by omega) (hf.ok hfv).1
     simp only[tbO,bS]
     rw[qM hn r1 r2 r3 r4,ae]
     by_cases h2:enN n (k:Int) d=e
     ·rw[if_pos h2,if_pos h2]
     ·rw[if_neg h2,if_neg h2]
  ·rw[if_neg h0,if_neg h0]
end Go.Vs
namespace Go.Vs
open Go.IntWalk
theorem Bt (Q:Nat→Prop):∀(m:Nat),Q m→∃y,y≤m∧Q y∧∀u,u<y→¬Q u
 |0,h=>⟨0,Nat.le_refl _,h,fun u hu=>absurd hu (Nat.not_lt_zero u)⟩
 |m+1,h=>by
  rcases Classical.em (∃u,u<m+1∧Q u) with⟨u,h1,h2⟩|h3
  ·rcases Nat.lt_or_ge u m with hu|hu
   ·obtain⟨y,y1,y2,y3⟩:=Bt (fun k=>k≤m∧Q k∨k=m) m (.inr rfl)
    rcases Classical.em (∃u,u≤m∧Q u) with h4|h4
    ·obtain⟨u,g1,g2⟩:=h4
     rcases y2 with⟨_,y2⟩|y2
     ·exact⟨y,by omega,y2,fun v hv hq=>y3 v hv (.inl ⟨by omega,hq⟩)⟩
     ·subst y2
      rcases Nat.lt_or_ge u y with hh|hh
      ·exact absurd (.inl ⟨g1,g2⟩) (y3 u hh)
      ·obtain rfl:u=y:=by omega
       exact⟨u,by omega,g2,fun v hv hq=>y3 v hv (.inl ⟨by omega,hq⟩)⟩
    ·exact absurd ⟨u,by omega,h2⟩ h4
   ·obtain rfl:u=m:=by omega
    obtain⟨y,y1,y2,y3⟩:=Bt Q u h2
    exact⟨y,by omega,y2,y3⟩
  ·exact⟨m+1,Nat.le_refl _,h,fun u hu hq=>h3 ⟨u,hu,hq⟩⟩
theorem uG {n:Network} {f:Int→Int→Option Int} {s:ByteArray} {a m:Int} (h1:s∈plc n) (h2:a≤100000) (h3:0≤m):j9 n f s a m=itr n f (ixN (plc n) s) m.toNat (fY n (ixN (plc n) s) a):=by
 unfold j9
 rw[if_neg (by simp[h1];omega)]
theorem wl1 {fd:Fd} {n:Network} {f:Int→Int→Option Int} (hn:NetOk n) (hf:Find fd n f) {s:ByteArray} {a:Int} (hs:s∈plc n) (ha:a≤100000) {x2:Int} (hx:0≤x2):∀(m k:Nat),k+m≤1000→
 dI G.real TE.real n fd s a x2 m (k:Int) ((List.range k).map fun j=>itr n f (ixN (plc n) s) j (fY n (ixN (plc n) s) a))=some (.out ((List.range (k+m)).map fun j=>itr n f (ixN (plc n) s) j (fY n (ixN (plc n) s) a)))
 |0,k,_=>by rw[dI];rfl
 |m+1,k,h=>by
  have hi:=(ci hs).1
  rw[dI,yS hn hf s a (by omega),uG hs ha (by omega),ae]
  simp only[de,dc,eo,ca,al,aN,bh,Int.toNat_natCast]
  rw[gi,ed,if_neg (by omega),if_neg (by omega),w64 (by omega) (by omega),ag (by simp;omega),show(k:Int)+1=((k+1:Nat):Int) from by omega]
  have:=wl1 hn hf hs ha hx m (k+1) (by omega)
  rw[List.range_succ,List.map_append,List.map_cons,List.map_nil] at this
  rw[this,show k+1+m=k+(m+1) by omega]
theorem wl2 {R:Nat→List Int} {P p:Nat} {x5:Int} (hP:P≤1000) (hp:∀m,p<(R m).length):∀(d fuel v:Nat),d<fuel→v+d≤P→(∀u,v≤u→u<v+d→lab (R u) p≠x5)→lab (R (v+d)) p=x5→
 fD G.real TE.real (p:Int) x5 ((List.range (P+1)).map R) fuel (v:Int)=some ((v+d:Nat):Int)
 |d,0,v,h,_,_,_=>absurd h (Nat.not_lt_zero d)
 |d,fuel+1,v,h,h1,h2,h3=>by
  have g:((List.range (P+1)).map R)[v]?=some (R v):=by
   rw[List.getElem?_map,List.getElem?_range (by omega)];rfl
  have hp1:=hp v
  rw[fD]
  simp only[bo,Int.toNat_natCast,rQ,ca,de,al,bh]
  rw[ar g,ag (by simp;omega),ag (by omega),ar (du hp1)]
  cases d with
  |zero=>rw[if_pos (show lab (R v) p=x5 from h3)];rfl
  |succ d=>
   rw[if_neg (h2 v (by omega) (by omega)),w64 (by omega) (by omega),show(v:Int)+1=((v+1:Nat):Int) from by omega,wl2 hP hp d fuel (v+1) (by omega) (by omega) (fun u g1 g2=>h2 u (by omega) (by omega)) (by rw[show v+1+d=v+(d+1) by omega];exact h3),show v+1+d=v+(d+1) by omega]
theorem yW {n:Network} {f:Int→Int→Option Int} {st:Nat} {best:List Int} {x:ByteArray} {e:Int} {t:Trip} (h:stF n f st best x e n.Legs 0=some t):0≤t.Leg∧t.Leg<n.Legs.length:=by
 obtain⟨j,z,q1,q2,q3,q4⟩:=rW (n:=n) (f:=f) (st:=st) n.Legs 0 (by simp) h
 have hj:j<n.Legs.length:=by
  rcases Nat.lt_or_ge j n.Legs.length with hh|hh
  ·exact hh
  ·rw[List.getElem?_eq_none hh] at q1;cases q1
 omega
theorem wl3 {fd:Fd} {n:Network} {f:Int→Int→Option Int} (hn:NetOk n) (hf:Find fd n f) {s:ByteArray} (hs:s∈plc n) {b0:List Int} (hl:b0.length=(plc n).length) (hb:∀i,lab b0 i≤100000) {P:Nat} (hP:P≤1000):∀(k fuel:Nat) (x:ByteArray) (e:Int) (acc r:List Trip),k<fuel→k≤P→x∈plc n→acc.length+k≤1000→chF n f (ixN (plc n) s) b0 k x e acc.reverse=some r→
 eD G.real TE.real n fd s (plc n) ((List.range (P+1)).map fun j=>itr n f (ixN (plc n) s) j b0) fuel ((ixN (plc n) x:Nat):Int) e (k:Int) acc=some (.out r.reverse)
 |k,0,x,e,acc,r,h,_,_,_,_=>absurd h (Nat.not_lt_zero k)
 |0,fuel+1,x,e,acc,r,h,h1,hx,h2,hc=>by
  rw[chF] at hc
  cases hc
  rw[eD]
  simp only[dc,al]
  rw[if_neg (by omega),List.reverse_reverse]
 |k+1,fuel+1,x,e,acc,r,h,h1,hx,h2,hc=>by
  have hok:FOk n f:=⟨hn,hf.ok⟩
  have pl:=da n
  have hlen:=hn.len
  have g:((List.range (P+1)).map fun j=>itr n f (ixN (plc n) s) j b0)[k]?=some (itr n f (ixN (plc n) s) k b0):=by
   rw[List.getElem?_map,List.getElem?_range (by omega)];rfl
  rw[chF] at hc
  rw[eD]
  have hwr:G.real.wrap .i64 (G.real.sub ((k+1:Nat):Int) 1)=(k:Int):=by rw[kV,w64 (by omega) (by omega)];omega
  simp only[dc,al,hwr,bo,Int.toNat_natCast]
  rw[if_pos (by omega),ar g,ag (by simp;omega)]
  unfold lT
  have hl2:=(gi (n:=n) (f:=f) (st:=ixN (plc n) s) k b0).trans hl
  have hb2:=yC (st:=ixN (plc n) s) hok k hl hb
  rw[show(0:Int)=((0:Nat):Int) from rfl,BA hn hf hl2 hb2 hs hx e n.Legs 0 (by simp),ae]
  cases ht:stF n f (ixN (plc n) s) (itr n f (ixN (plc n) s) k b0) x e n.Legs ((0:Nat):Int) with
  |none=>rw[show((0:Nat):Int)=0 from rfl] at ht;rw[ht] at hc;cases hc
  |some t=>
   rw[show((0:Nat):Int)=0 from rfl] at ht
   rw[ht] at hc
   obtain⟨t2,t3⟩:=yW ht
   have hfm:(lgOf n t.Leg).From∈plc n:=(db n _).2 ⟨_,ln t2 t3,.inl rfl⟩
   have hi:=(ci hfm).1
   simp only[yh,aN,ae,bS]
   rw[ag (by simp;omega),ag (by omega),ar (cL t2 t3)]
   simp only[pK (show(plc n).length≤4194304 by omega),iD hfm,ca]
   rw[ag (by simp;omega),ag (by omega),Int.toNat_natCast,ar (du (by omega))]
   refine wl3 hn hf hs hl hb hP k fuel _ _ _ r (by omega) (by omega) hfm (by simp;omega) ?_
   rw[List.reverse_append]
   exact hc
theorem wl4 (y:List Trip) (hy:y.length≤2000):∀(k fuel:Nat) (acc:List Trip),k<fuel→k≤y.length→acc.length+k≤2000→
 eH G.real TE.real y fuel acc ((k:Int)-1)=some (acc++(y.take k).reverse)
 |k,0,acc,h,_,_=>absurd h (Nat.not_lt_zero k)
 |0,fuel+1,acc,h,h1,h2=>by
  rw[eH]
  simp only[jz,al]
  rw[if_neg (by omega)];simp
 |k+1,fuel+1,acc,h,h1,h2=>by
  rw[eH]
  simp only[jz,al,bo,kV,aN,mJ]
  rw[show((k+1:Nat):Int)-1=(k:Int) from by omega,if_pos (by omega),ag (by omega),Int.toNat_natCast,ar (List.getElem?_eq_getElem (show k<y.length by omega)),ag (by simp;omega),w64 (by omega) (by omega),wl4 y hy k fuel _ (by omega) (by omega) (by simp;omega)]
  congr 1
  rw[List.take_add_one,List.getElem?_eq_getElem (show k<y.length by omega),List.reverse_append]
  simp
end Go.Vs
namespace Go.Vs
open Go.IntWalk
theorem DI {n:Network} (hn:NetOk n) (l at_:Int):iM G.real TE.real n l at_=some (dyO (fN n l at_)):=Di hn l at_
theorem zj {n:Network} (hn:NetOk n) {best:List Int} (hl:best.length=(plc n).length) (hb:∀i,lab best i≤100000) {st:Nat} {x:ByteArray} (hx:x∈plc n) (e:Int):∀(ls:List Leg) (k:Nat),n.Legs.drop k=ls→
 cC G.real TE.real n (plc n) best (st:Int) ((ixN (plc n) x:Nat):Int) e ls (k:Int)=some (match stF n (fN n) st best x e ls (k:Int) with|some t=>.ret t|none=>.out ())
 |[],k,_=>by rw[cC,stF]
 |z::ls,k,hd=>by
  have hlen:=hn.len
  have hk:k<n.Legs.length:=by
   have:=congrArg List.length hd
   simp at this;omega
  have hz:n.Legs[k]?=some z:=by
   have:(n.Legs.drop k)[0]?=some z:=by rw[hd];rfl
   simpa using this
  have hd2:n.Legs.drop (k+1)=ls:=by
   have:=congrArg List.tail hd
   simpa using this
  have hm:=List.mem_of_getElem? hz
  obtain⟨ha,hbz⟩:=km hm
  have pl:=da n
  have hfm:z.From∈plc n:=(db n _).2 ⟨z,hm,.inl rfl⟩
  have e1:ix (plc n) z.From=(aI n z:Int):=iD hfm
  have hk1:(k:Int)+1=((k+1:Nat):Int):=by omega
  rw[cC,stF]
  simp only[aN,tR (show(plc n).length≤4194304 by omega),e1,bo,Int.toNat_natCast,dc,jz,bh,de,fE,al]
  rw[ag (by omega),ar (ci hx).2,w64 (n:=(k:Int)+1) (by omega) (by omega),hk1,zj hn hl hb hx e ls (k+1) hd2]
  by_cases h0:z.To=x
  ·rw[if_pos h0,if_pos h0,ag (by omega),ar (du (l:=best) (by omega))]
   unfold dyv
   by_cases h1:lab best (aI n z)<0
   ·rw[if_pos h1,if_pos h1]
   ·rw[if_neg h1,if_neg h1,ag (by omega)]
    have hxx:=hb (aI n z)
    have hc:=hn.change
    have er:fM G.real TE.real n (lab best (aI n z)) (decide ((aI n z:Int)=(st:Int)))=rdy n (lab best (aI n z)) (decide (aI n z=st)):=by
     unfold fM rdy
     simp only[bh,al]
     rw[w64 (by omega) (by omega)]
     by_cases hs:aI n z=st
     ·rw[if_pos (by omega),if_pos (by simp[hs])]
     ·rw[if_neg (by omega),if_neg (by simp[hs])]
    rw[er,DI hn,ae]
    cases hfv:fN n (k:Int) (rdy n (lab best (aI n z)) (decide (aI n z=st))) with
    |none=>
     rw[if_neg (show¬(0:Int)≤dyO none by show¬(0:Int)≤ -1;omega)]
    |some d=>
     obtain⟨r1,r2,r3,r4⟩:=cw (n:=n) (by omega) ((dN hn).ok hfv).1
     rw[if_pos (show(0:Int)≤dyO (some d) from r3),show dyO (some d)=d from rfl,B0 hn r1 r2 r3 r4,ae]
     by_cases h2:enN n (k:Int) d=e
     ·simp only[if_pos h2]
     ·simp only[if_neg h2]
  ·rw[if_neg h0,if_neg h0]
theorem GP {n:Network} {s:ByteArray} {a:Int} {R:Nat→List Int} {p:Nat} {x5:Int} (hR:∀m:Nat,aW G.real TE.real n s a (m:Int)=some (R m)∨1000<m) (hp:∀m,p<(R m).length):∀(d fuel v:Nat),d<fuel→v+d≤1000→(∀u,v≤u→u<v+d→lab (R u) p≠x5)→lab (R (v+d)) p=x5→
 d7 G.real TE.real n s a x5 (p:Int) fuel (v:Int)=some ((v+d:Nat):Int)
 |d,0,v,h,_,_,_=>absurd h (Nat.not_lt_zero d)
 |d,fuel+1,v,h,h1,h2,h3=>by
  have hp1:=hp v
  have hr:aW G.real TE.real n s a (v:Int)=some (R v):=by
   rcases hR v with hr|hr
   ·exact hr
   ·omega
  rw[d7,hr,ae]
  simp only[bo,Int.toNat_natCast,ca,de,al,bh]
  rw[ag (by omega),ar (du hp1)]
  cases d with
  |zero=>rw[if_pos (show lab (R v) p=x5 from h3)];rfl
  |succ d=>
   rw[if_neg (h2 v (by omega) (by omega)),w64 (by omega) (by omega),show(v:Int)+1=((v+1:Nat):Int) from by omega,GP hR hp d fuel (v+1) (by omega) (by omega) (fun u g1 g2=>h2 u (by omega) (by omega)) (by rw[show v+1+d=v+(d+1) by omega];exact h3),show v+1+d=v+(d+1) by omega]
theorem HR {n:Network} {a:Int} (hn:NetOk n) {s:ByteArray} {b0:List Int} (hl:b0.length=(plc n).length) (hb:∀i,lab b0 i≤100000)
 (hR:∀m:Nat,aW G.real TE.real n s a (m:Int)=some (itr n (fN n) (ixN (plc n) s) m b0)∨1000<m):∀(k fuel:Nat) (x:ByteArray) (e:Int) (acc r:List Trip),k<fuel→k≤1000→x∈plc n→acc.length+k≤1000→chF n (fN n) (ixN (plc n) s) b0 k x e acc=some r→
 dA G.real TE.real n s a (plc n) ((ixN (plc n) s:Nat):Int) fuel e ((ixN (plc n) x:Nat):Int) acc (k:Int)=some r
 |k,0,x,e,acc,r,h,_,_,_,_=>absurd h (Nat.not_lt_zero k)
 |0,fuel+1,x,e,acc,r,h,h1,hx,h2,hc=>by
  rw[chF] at hc
  cases hc
  rw[dA]
  simp only[dc,al]
  rw[if_neg (by omega)]
 |k+1,fuel+1,x,e,acc,r,h,h1,hx,h2,hc=>by
  have hok:FOk n (fN n):=⟨hn,(dN hn).ok⟩
  have pl:=da n
  have hlen:=hn.len
  have hr:aW G.real TE.real n s a (k:Int)=some (itr n (fN n) (ixN (plc n) s) k b0):=by
   rcases hR k with hr|hr
   ·exact hr
   ·omega
  rw[chF] at hc
  rw[dA]
  simp only[dc,al,kV,bo]
  rw[if_pos (by omega),w64 (by omega) (by omega),show((k+1:Nat):Int)-1=(k:Int) from by omega,hr,ae]
  unfold oo
  have hl2:=(gi (n:=n) (f:=fN n) (st:=ixN (plc n) s) k b0).trans hl
  have hb2:=yC (st:=ixN (plc n) s) hok k hl hb
  rw[show(0:Int)=((0:Nat):Int) from rfl,zj hn hl2 hb2 hx e n.Legs 0 (by simp),ae]
  cases ht:stF n (fN n) (ixN (plc n) s) (itr n (fN n) (ixN (plc n) s) k b0) x e n.Legs ((0:Nat):Int) with
  |none=>rw[show((0:Nat):Int)=0 from rfl] at ht;rw[ht] at hc;cases hc
  |some t=>
   rw[show((0:Nat):Int)=0 from rfl] at ht
   rw[ht] at hc
   obtain⟨t2,t3⟩:=yW ht
   have hfm:(lgOf n t.Leg).From∈plc n:=(db n _).2 ⟨_,ln t2 t3,.inl rfl⟩
   have hi:=(ci hfm).1
   simp only[yh,aN,ae]
   rw[ag (by simp;omega),ag (by omega),ar (cL t2 t3)]
   simp only[tR (show(plc n).length≤4194304 by omega),iD hfm,ca]
   rw[ag (by omega),Int.toNat_natCast,ar (du (by omega))]
   exact HR hn hl hb hR k fuel _ _ _ r (by omega) (by omega) hfm (by simp;omega) hc
def hZ (n:Network) (p:ByteArray):ByteArray→Int→List Trip→Prop
 |x,_,[]=>x=p
 |x,a,t::l=>runsB n t.Leg t.Day=true∧(lgOf n t.Leg).From=x∧a≤stN n t.Leg t.Day∧hZ n p (lgOf n t.Leg).To (enN n t.Leg t.Day+n.Change) l
theorem rC {n:Network} {f:Int→Int→Option Int} {st:Nat} (h:FOk n f):∀(m:Nat) {best:List Int} {i:Nat},best.length=(plc n).length→0≤lab best i→0≤lab (itr n f st m best) i∧lab (itr n f st m best) i≤lab best i
 |0,best,i,_,h0=>⟨h0,Int.le_refl _⟩
 |m+1,best,i,hl,h0=>by
  have h1:=sx (st:=st) h hl h0
  have h2:=rC (st:=st) h m (ip.trans hl) h1.1
  exact⟨h2.1,Int.le_trans h2.2 h1.2⟩
theorem yE {n:Network} {f:Int→Int→Option Int} {st:Nat} (h:FOk n f) {c:Int}:∀(m:Nat) {best:List Int},best.length=(plc n).length→(∀i,0≤lab best i→c≤lab best i)→∀i,0≤lab (itr n f st m best) i→c≤lab (itr n f st m best) i
 |0,best,_,hb,i,h0=>hb i h0
 |m+1,best,hl,hb,i,h0=>yE h m (ip.trans hl) (fun j hj=>by
   rcases(gU (st:=st) h hl j).1 with e|⟨k,z,e,g1,g2,g3,g4,g5⟩
   ·rw[e] at hj ⊢;exact hb j hj
   ·obtain⟨q1,q2,_⟩:=iH h g3
    have:=hb _ q1
    omega) i h0
theorem y9 {n:Network} {f:Int→Int→Option Int} {st:Nat} {best:List Int} {x:ByteArray} {e:Int}:∀(ls:List Leg) (k:Nat) {t:Trip},n.Legs.drop k=ls→stF n f st best x e ls (k:Int)=some t→
 ∃(z:Leg),lgOf n t.Leg=z∧z∈n.Legs∧0≤t.Leg∧t.Leg<n.Legs.length∧z.To=x∧dyv n f st best z t.Leg=some t.Day∧enN n t.Leg t.Day=e
 |[],k,t,_,h=>by rw[stF] at h;cases h
 |z::ls,k,t,hd,h=>by
  have hk:k<n.Legs.length:=by
   have:=congrArg List.length hd
   simp at this;omega
  have hz:n.Legs[k]?=some z:=by
   have:(n.Legs.drop k)[0]?=some z:=by rw[hd];rfl
   simpa using this
  have hd2:n.Legs.drop (k+1)=ls:=by
   have:=congrArg List.tail hd
   simpa using this
  have ih:stF n f st best x e ls ((k:Int)+1)=some t→_:=fun h=>y9 ls (k+1) hd2 (by rw[←h];rfl)
  rw[stF] at h
  split at h
  ·rename_i hto
   split at h
   ·rename_i d hdv
    split at h
    ·rename_i he
     cases h
     have hl:=cL (n:=n) (l:=(k:Int)) (by omega) (by omega)
     rw[Int.toNat_natCast,hz] at hl
     exact⟨z,(Option.some.inj hl).symm,List.mem_of_getElem? hz,by show(0:Int)≤(k:Int);omega,by show(k:Int)<_;omega,hto,hdv,he⟩
    ·exact ih h
   ·exact ih h
  ·exact ih h
theorem wy {n:Network} (hn:NetOk n) {a:Int} {s p:ByteArray} (hs:s∈plc n) {b0:List Int} (hb:b0=fY n (ixN (plc n) s) a):∀(k:Nat) (x:ByteArray) (e:Int) (acc r:List Trip),x∈plc n→e=lab (itr n (fN n) (ixN (plc n) s) k b0) (ixN (plc n) x)→0≤e→hZ n p x (rdy n e (decide (ixN (plc n) x=ixN (plc n) s))) acc→
 chF n (fN n) (ixN (plc n) s) b0 k x e acc=some r→hZ n p s (max a 0) r
 |0,x,e,acc,r,hx,he,h0,hp,hc=>by
  rw[chF] at hc
  cases hc
  have h1:e=lab (fY n (ixN (plc n) s) a) (ixN (plc n) x):=by rw[he,hb];rfl
  rw[iB (ci hs).1] at h1
  split at h1
  ·rename_i hh
   have:=qc hx hs hh
   subst this
   rw[←h1]
   unfold rdy at hp
   rw[if_pos (by simp)] at hp
   exact hp
  ·omega
 |k+1,x,e,acc,r,hx,he,h0,hp,hc=>by
  have hok:FOk n (fN n):=⟨hn,(dN hn).ok⟩
  have hl:b0.length=(plc n).length:=by rw[hb];exact ed _ _ _
  have hlow0:∀i,0≤lab b0 i→max a 0≤lab b0 i:=fun i hi=>by
   rw[hb,iB (ci hs).1] at hi ⊢
   split at hi
   ·rw[if_pos ‹_›];exact Int.le_refl _
   ·omega
  rw[chF] at hc
  split at hc
  ·rename_i t ht
   obtain⟨z,z1,z2,z3,z4,z5,z6,z7⟩:=y9 (n:=n) n.Legs 0 (by simp) ht
   have hfm:(lgOf n t.Leg).From∈plc n:=(db n _).2 ⟨_,by rw[z1];exact z2,.inl rfl⟩
   unfold dyv at z6
   split at z6
   ·cases z6
   ·rename_i hge
    have hai:aI n z=ixN (plc n) (lgOf n t.Leg).From:=by rw[z1];rfl
    rw[hai] at hge z6
    have hd:=qB z6
    have hpn:=hd.1
    unfold pN at hpn
    rw[Bool.and_eq_true,decide_eq_true_eq] at hpn
    have hc2:=hn.change
    have hlow:=yE (st:=ixN (plc n) s) hok k hl hlow0 (ixN (plc n) (lgOf n t.Leg).From) (by omega)
    obtain⟨r1,r2,r3,r4⟩:=cw (n:=n) (by have:=hn.len;omega) hpn.1
    obtain⟨q1,q2,q3,q4⟩:=kU hn r1 r2 r3 r4
    have hrd:lab (itr n (fN n) (ixN (plc n) s) k b0) (ixN (plc n) (lgOf n t.Leg).From)≤stN n t.Leg t.Day:=by
     have h3:=hpn.2
     unfold rdy at h3
     split at h3<;>omega
    have hne:ixN (plc n) x≠ixN (plc n) s:=fun hh=>by
     have hxs:=qc hx hs hh
     subst hxs
     have hst0:lab b0 (ixN (plc n) x)=max a 0:=by rw[hb,iB (ci hs).1,if_pos rfl]
     have hm:=(rC (st:=ixN (plc n) x) hok (k+1) (i:=ixN (plc n) x) hl (by rw[hst0];omega)).2
     rw[hst0,←he,←z7] at hm
     omega
    refine wy hn hs hb k _ _ (t::acc) r hfm rfl (by omega) ⟨hpn.1,rfl,?_,?_⟩ hc
    ·exact hpn.2
    ·unfold rdy at hp
     rw[if_neg (by simp[hne])] at hp
     rw[z7,z1,z5];exact hp
  ·cases hc
theorem Cw {n:Network} (ht:n.tot≤1048576) (s p:ByteArray) (a:Int):
 ∃r,gI G.real TE.real n s p a=some r∧gB G.real TE.real n s p a=some r∧r.1.length≤40∧(r.2=true→netB n=true∧s∈plc n∧p∈plc n∧a≤100000∧hZ n p s (max a 0) r.1):=by
 have pl:=da n
 have hlen:=dj ht
 unfold gI gB jY
 rw[wM (by omega),ea_s ht hlen,tV ht]
 simp only[ae,aN,eo,gT,tR (show(plc n).length≤4194304 by omega)]
 simp only[dc,de,bo,ca,al]
 cases hb:netB n with
 |false=>
  have e:eaB n s p a= -1:=by unfold eaB;rw[if_neg (by simp[hb])]
  refine⟨([],false),?_,rfl,by simp,fun h=>by cases h⟩
  rw[e]
  rfl
 |true=>
  have hn:=gb ht hb
  have hlen:=hn.len
  rw[bS]
  have hf:=dN hn
  have hok:FOk n (fN n):=⟨hn,hf.ok⟩
  have hea:eaB n s p a=if s∈plc n∧p∈plc n∧a≤100000 then lab (j9 n (fN n) s a ((plc n).length:Nat)) (ixN (plc n) p) else-1:=by
   unfold eaB
   by_cases h:s∈plc n∧p∈plc n∧a≤100000
   ·rw[if_pos h,if_pos ⟨hb,h.1,h.2.2,h.2.1⟩]
   ·rw[if_neg h,if_neg (fun q=>h ⟨q.2.1,q.2.2.2,q.2.2.1⟩)]
  unfold qa
  rw[xA (by omega)]
  simp only[ae,aN,eo,gT,pK (show(plc n).length≤4194304 by omega),dc,bo,ca,al,kV,rQ]
  rw[ag (c:=((plc n).length:Int)≤4611686018427387904) (by omega),show dt 0 ((plc n).length:Int)=(plc n).length+1 from by unfold dt;omega]
  by_cases h1:s∈plc n∧a≤100000
  ·by_cases h2:p∈plc n
   ·
    have hi:=ci h1.1
    have hj:=ci h2
    have hR:∀m:Int,0≤m→j9 n (fN n) s a m=itr n (fN n) (ixN (plc n) s) m.toNat (fY n (ixN (plc n) s) a):=fun m hm=>uG h1.1 h1.2 hm
    have hll:=ed n (ixN (plc n) s) a
    have hlb:=uv (n:=n) hi.1 h1.2
    have hW:=wl1 hn hf (a:=a) h1.1 h1.2 (x2:=ix (plc n) p) (by rw[iD h2];omega) ((plc n).length+1) 0 (by omega)
    rw[show(0:Int)=((0:Nat):Int) from rfl]
    rw[show([]:List (List Int))=((List.range 0).map fun j=>itr n (fN n) (ixN (plc n) s) j (fY n (ixN (plc n) s) a)) from rfl,hW,Nat.zero_add]
    simp only[ae,rU]
    have g:((List.range ((plc n).length+1)).map fun j=>itr n (fN n) (ixN (plc n) s) j (fY n (ixN (plc n) s) a))[(plc n).length]?=some (itr n (fN n) (ixN (plc n) s) (plc n).length (fY n (ixN (plc n) s) a)):=by
     rw[List.getElem?_map,List.getElem?_range (by omega)];rfl
    have hp:∀m,ixN (plc n) p<(itr n (fN n) (ixN (plc n) s) m (fY n (ixN (plc n) s) a)).length:=fun m=>by rw[gi,hll];exact hj.1
    have hpP:=hp (plc n).length
    rw[if_pos ⟨h1.1,h2,h1.2⟩] at hea
    rw[hea,hR _ (by omega),Int.toNat_natCast,iD h2,iD h1.1]
    by_cases h3:lab (itr n (fN n) (ixN (plc n) s) (plc n).length (fY n (ixN (plc n) s) a)) (ixN (plc n) p)<((0:Nat):Int)
    ·refine⟨([],false),?_,?_,by simp,fun h=>by cases h⟩
     ·rw[if_pos h3]
     ·rw[ar g,ag (by simp;omega),ag (by omega),Int.toNat_natCast,ar (du hpP),if_pos h3];rfl
    ·have hRS:∀m:Nat,aW G.real TE.real n s a (m:Int)=some (itr n (fN n) (ixN (plc n) s) m (fY n (ixN (plc n) s) a))∨1000<m:=fun m=>by
      rcases Nat.lt_or_ge 1000 m with hm|hm
      ·exact .inr hm
      ·left;rw[HG hn ht hb s a (by omega),hR _ (by omega),Int.toNat_natCast]
     obtain⟨y,y1,y2,y3⟩:=Bt (fun m=>lab (itr n (fN n) (ixN (plc n) s) m (fY n (ixN (plc n) s) a)) (ixN (plc n) p)=lab (itr n (fN n) (ixN (plc n) s) (plc n).length (fY n (ixN (plc n) s) a)) (ixN (plc n) p)) (plc n).length rfl
     have q1:=wl2 (R:=fun m=>itr n (fN n) (ixN (plc n) s) m (fY n (ixN (plc n) s) a)) (P:=(plc n).length) (p:=ixN (plc n) p) (by omega) hp y 1000000000 0 (by omega) (by omega) (fun u _ hu=>y3 u (by omega)) (by rw[Nat.zero_add];exact y2)
     have q2:=GP (R:=fun m=>itr n (fN n) (ixN (plc n) s) m (fY n (ixN (plc n) s) a)) (p:=ixN (plc n) p) hRS hp y 1000000000 0 (by omega) (by omega) (fun u _ hu=>y3 u (by omega)) (by rw[Nat.zero_add];exact y2)
     rw[Nat.zero_add] at q1 q2
     obtain⟨r,r1,r2⟩:=BE hok hll y (x:=p) [] h2 (fun j hj=>by
      subst hj
      intro he
      exact y3 j (by omega) (he.symm.trans y2))
     have hpath:=wy hn h1.1 rfl y p _ [] r h2 rfl (by rw[y2];omega) (show hZ n p p _ [] from rfl) r1
     rw[y2] at r1
     have q3:=HR hn hll hlb hRS y 1000000000 p _ [] r (by omega) (by omega) h2 (by simp;omega) r1
     have q4:=wl3 hn hf h1.1 hll hlb (P:=(plc n).length) (by omega) y 1000000000 p _ [] r (by omega) (by omega) h2 (by simp;omega) r1
     simp only[List.length_nil,Nat.zero_add] at r2
     refine⟨(r,true),?_,?_,by simp;omega,fun _=>⟨trivial,h1.1,h2,h1.2,hpath⟩⟩
     ·rw[if_neg h3,q2,ae,q3,ae]
     ·rw[ar g,ag (by simp;omega),ag (by omega),Int.toNat_natCast,ar (du hpP),if_neg h3,q1]
      simp only[ae]
      rw[q4]
      simp only[ae,rU,mJ,List.length_reverse]
      have q5:=wl4 r.reverse (by simp;omega) r.length 1000000000 [] (by omega) (by simp) (by simp;omega)
      rw[w64 (by omega) (by omega),q5,List.take_of_length_le (by simp),List.reverse_reverse,List.nil_append]
      rfl
   ·refine⟨([],false),?_,?_,by simp,fun h=>by cases h⟩
    ·rw[if_neg (fun h=>h2 h.2.1)] at hea
     rw[hea,if_pos (by omega)]
    ·have hla:=qU (n:=n) (f:=fN n) (m:=0) h1.1 h1.2 (by omega)
     have hi:=(ci h1.1).1
     rw[dI,yS hn hf s a (by omega),ae]
     simp only[de,dc,eo,ca,al]
     rw[hla,if_neg (by omega),if_pos (qx.2 h2)];rfl
  ·have e:∀m:Int,j9 n (fN n) s a m=[]:=fun m=>by
    unfold j9
    rw[if_pos]
    by_cases h2:s∈plc n
    ·right;left
     have:¬a≤100000:=fun h=>h1 ⟨h2,h⟩
     omega
    ·exact .inl h2
   refine⟨([],false),?_,?_,by simp,fun h=>by cases h⟩
   ·rw[if_neg (fun h=>h1 ⟨h.1,h.2.2⟩)] at hea
    rw[hea,if_pos (by omega)]
   ·rw[dI,yS hn hf s a (by omega),ae,e]
    rfl
end Go.Vs
