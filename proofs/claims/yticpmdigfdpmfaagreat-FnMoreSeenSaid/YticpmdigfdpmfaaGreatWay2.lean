/- Part of the proofs of this seat's laws: Way2. No condition. -/
import Derived.Test.YticpmdigfdpmfaaGreatWays
import Derived.Test.YticpmdigfdpmfaaGreatLab
import Derived.Test.YticpmdigfdpmfaaGreatLac
set_option linter.unusedVariables false
set_option linter.unusedSimpArgs false
set_option linter.unusedSectionVars false
namespace Go.Vs
open Go.IntWalk
theorem pS {l:List ByteArray} {x y:ByteArray} (hx:x∈l) (hy:y∈l) (h:ixN l x=ixN l y):x=y:=by
 have h1:=(bM hx).2
 have h2:=(bM hy).2
 rw[h,h2] at h1
 exact(Option.some.inj h1).symm
section
variable {n:Network} {f:Int→Int→Option Int} {st:Nat}
def dyv (n:Network) (f:Int→Int→Option Int) (st:Nat) (best:List Int) (z:Leg) (v:Int):Option Int:=
 if lab best (aI n z)<0 then none else f v (rdy n (lab best (aI n z)) (decide (aI n z=st)))
theorem yn (best:List Int) (z:Leg) (v:Int):via n f st best z v=(dyv n f st best z v).map (enN n v):=by
 unfold via dyv
 split<;>rfl
def stF (n:Network) (f:Int→Int→Option Int) (st:Nat) (best:List Int) (x:ByteArray) (e:Int):List Leg→Int→Option Trip
 |[],_=>none
 |z::ls,v=>if z.To=x then(match dyv n f st best z v with|some d=>if enN n v d=e then some ⟨v,d⟩ else stF n f st best x e ls (v+1)|none=>stF n f st best x e ls (v+1)) else stF n f st best x e ls (v+1)
theorem yi {best:List Int} {x:ByteArray} {e:Int}:∀(ls:List Leg) (k:Nat),n.Legs.drop k=ls→(∃(j:Nat) (z:Leg),k≤j∧n.Legs[j]?=some z∧z.To=x∧via n f st best z (j:Int)=some e)→
 ∃t,stF n f st best x e ls (k:Int)=some t
 |[],k,hd,h=>by
  obtain⟨j,z,h1,h2,_⟩:=h
  have:=List.drop_eq_nil_iff.1 hd
  rw[List.getElem?_eq_none (by omega)] at h2
  cases h2
 |z::ls,k,hd,h=>by
  have hz:n.Legs[k]?=some z:=by
   have:(n.Legs.drop k)[0]?=some z:=by rw[hd];rfl
   simpa using this
  have hd2:n.Legs.drop (k+1)=ls:=by
   have:=congrArg List.tail hd
   simpa using this
  have hk1:(k:Int)+1=((k+1:Nat):Int):=by omega
  obtain⟨j,y,h1,h2,h3,h4⟩:=h
  have ih:=fun hj=>yi (best:=best) (x:=x) (e:=e) ls (k+1) hd2 ⟨j,y,hj,h2,h3,h4⟩
  rw[stF,hk1]
  by_cases hj:j=k
  ·subst hj
   rw[hz] at h2
   cases h2
   rw[if_pos h3]
   rw[yn] at h4
   cases hdv:dyv n f st best z (j:Int) with
   |none=>rw[hdv] at h4;cases h4
   |some d=>
    rw[hdv] at h4
    have h5:enN n (j:Int) d=e:=Option.some.inj h4
    exact⟨⟨(j:Int),d⟩,if_pos h5⟩
  ·have ih:=ih (by omega)
   split
   ·split
    ·split
     ·exact⟨_,rfl⟩
     ·exact ih
    ·exact ih
   ·exact ih
theorem rJ {best:List Int} {x:ByteArray} {e:Int}:∀(ls:List Leg) (k:Nat) {t:Trip},n.Legs.drop k=ls→stF n f st best x e ls (k:Int)=some t→
 ∃(j:Nat) (z:Leg),n.Legs[j]?=some z∧z.To=x∧t.Leg=(j:Int)∧via n f st best z (j:Int)=some e
 |[],k,t,hd,h=>by rw[stF] at h;cases h
 |z::ls,k,t,hd,h=>by
  have hz:n.Legs[k]?=some z:=by
   have:(n.Legs.drop k)[0]?=some z:=by rw[hd];rfl
   simpa using this
  have hd2:n.Legs.drop (k+1)=ls:=by
   have:=congrArg List.tail hd
   simpa using this
  have hk1:(k:Int)+1=((k+1:Nat):Int):=by omega
  have ih:=rJ (best:=best) (x:=x) (e:=e) ls (k+1) (t:=t) hd2
  rw[stF,hk1] at h
  split at h
  ·rename_i h1
   split at h
   ·rename_i d hdv
    split at h
    ·rename_i h2
     cases h
     exact⟨k,z,hz,h1,rfl,by rw[yn,hdv];exact congrArg some h2⟩
    ·exact ih h
   ·exact ih h
  ·exact ih h
def chF (n:Network) (f:Int→Int→Option Int) (st:Nat) (b0:List Int):Nat→ByteArray→Int→List Trip→Option (List Trip)
 |0,_,_,acc=>some acc
 |k+1,x,e,acc=>match stF n f st (itr n f st k b0) x e n.Legs 0 with
  |some t=>chF n f st b0 k (lgOf n t.Leg).From (lab (itr n f st k b0) (ixN (plc n) (lgOf n t.Leg).From)) (t::acc)
  |none=>none
theorem DQ (h:FOk n f) {best:List Int} (hl:best.length=(plc n).length) {x:ByteArray} (hx:x∈plc n) (hc:lab (rnd n f st best) (ixN (plc n) x)≠lab best (ixN (plc n) x)):
 ∃t,stF n f st best x (lab (rnd n f st best) (ixN (plc n) x)) n.Legs 0=some t∧0≤t.Leg∧t.Leg<n.Legs.length∧(∀b,b.length=(plc n).length→best=rnd n f st b→lab (rnd n f st b) (ixN (plc n) (lgOf n t.Leg).From)≠lab b (ixN (plc n) (lgOf n t.Leg).From)):=by
 rcases(gb (st:=st) h hl (ixN (plc n) x)).1 with e|⟨j,z,e,g1,g2,g3,g4,g5⟩
 ·exact absurd e hc
 ·have hm:=List.mem_of_getElem? g1
  have hto:z.To=x:=pS ((cw n _).2 ⟨z,hm,.inr rfl⟩) hx g2
  obtain⟨t,ht⟩:=yi (n:=n) (f:=f) (st:=st) (best:=best) (x:=x) (e:=e) n.Legs 0 (by simp) ⟨j,z,by omega,g1,hto,g3⟩
  obtain⟨j2,z2,q1,q2,q3,q4⟩:=rJ (n:=n) (f:=f) (st:=st) n.Legs 0 (by simp) ht
  have hj:j2<n.Legs.length:=by
   rcases Nat.lt_or_ge j2 n.Legs.length with hh|hh
   ·exact hh
   ·rw[List.getElem?_eq_none hh] at q1;cases q1
  have hz2:lgOf n t.Leg=z2:=by
   have:=cU (n:=n) (l:=t.Leg) (by omega) (by omega)
   rw[q3,Int.toNat_natCast,q1] at this
   rw[q3]
   exact(Option.some.inj this).symm
  refine⟨t,by rw[g4];exact ht,by omega,by omega,fun b hb hbe he=>?_⟩
  rw[hz2] at he
  have v2:via n f st b z2 (j2:Int)=some e:=by
   rw[←sC (b1:=best) (b2:=b) (by rw[hbe];exact he)];exact q4
  refine(gb (st:=st) h hb (ixN (plc n) x)).2 j2 z2 e q1 (by unfold bI;rw[q2]) v2 ?_
  rw[←hbe]
  exact g5
theorem CJ (h:FOk n f) {b0:List Int} (hl:b0.length=(plc n).length):∀(k:Nat) {x:ByteArray} (acc:List Trip),x∈plc n→(∀j,k=j+1→lab (itr n f st (j+1) b0) (ixN (plc n) x)≠lab (itr n f st j b0) (ixN (plc n) x))→
 ∃r,chF n f st b0 k x (lab (itr n f st k b0) (ixN (plc n) x)) acc=some r∧r.length=acc.length+k
 |0,x,acc,_,_=>⟨acc,rfl,rfl⟩
 |k+1,x,acc,hx,hc=>by
  have hc:=hc k rfl
  rw[fX] at hc ⊢
  obtain⟨t,t1,t2,t3,t4⟩:=DQ h ((fq k _).trans hl) hx hc
  have hm:=jT t2 t3
  obtain⟨r,r1,r2⟩:=CJ h hl k (x:=(lgOf n t.Leg).From) (t::acc) ((cw n _).2 ⟨_,hm,.inl rfl⟩) (fun j hj=>by
   subst hj
   have:=t4 (itr n f st j b0) ((fq j _).trans hl) (fX j b0)
   rw[fX];exact this)
  refine⟨r,?_,by rw[r2];simp;omega⟩
  rw[chF,t1]
  exact r1
end
theorem AY {fd:Fd} {n:Network} {f:Int→Int→Option Int} (hn:NetOk n) (hf:Find fd n f) {best:List Int} (hl:best.length=(plc n).length) (hb:∀i,lab best i≤100000) {s x:ByteArray} (hs:s∈plc n) (hx:x∈plc n) (e:Int):∀(ls:List Leg) (k:Nat),n.Legs.drop k=ls→
 bH G.real TE.real n fd (plc n) best s ((ixN (plc n) x:Nat):Int) e ls (k:Int)=some (match stF n f (ixN (plc n) s) best x e ls (k:Int) with|some t=>.ret (t,true)|none=>.out ())
 |[],k,_=>by rw[bH,stF]
 |z::ls,k,hd=>by
  have hlen:=hn.len
  have hk:k<n.Legs.length:=by
   have:=congrArg List.length hd
   simp at this;omega
  have hz:n.Legs[k]?=some z:=by
   have:(n.Legs.drop k)[0]?=some z:=by rw[hd];rfl
   simpa using this
  have hd2:n.Legs.drop (k+1)=ls:=by
   have:=congrArg List.tail hd
   simpa using this
  have hm:=List.mem_of_getElem? hz
  obtain⟨ha,hbz⟩:=j6 hm
  have pl:=cZ n
  have hfm:z.From∈plc n:=(cw n _).2 ⟨z,hm,.inl rfl⟩
  have e1:ix (plc n) z.From=(aI n z:Int):=iH hfm
  have hk1:(k:Int)+1=((k+1:Nat):Int):=by omega
  rw[bH,stF]
  simp only[aU,pi (show(plc n).length≤4194304 by omega),e1,bE,Int.toNat_natCast,ea,bx,dM,fT,am]
  rw[ah (by omega),ar (bM hx).2,w64 (n:=(k:Int)+1) (by omega) (by omega),hk1,AY hn hf hl hb hs hx e ls (k+1) hd2]
  by_cases h0:z.To=x
  ·rw[if_pos h0,if_pos h0,ah (by omega),ar (dc (l:=best) (by omega))]
   unfold dyv
   by_cases h1:lab best (aI n z)<0
   ·rw[if_pos h1,if_pos h1]
   ·rw[if_neg h1,if_neg h1,ah (by omega)]
    have hxx:=hb (aI n z)
    have hc:=hn.change
    have er:fM G.real TE.real n (lab best (aI n z)) (decide (z.From=s))=rdy n (lab best (aI n z)) (decide (aI n z=ixN (plc n) s)):=by
     unfold fM rdy
     simp only[bx,am]
     rw[w64 (by omega) (by omega)]
     by_cases hss:z.From=s
     ·rw[if_pos hss,if_pos (by simp[aI,hss])]
     ·rw[if_neg hss,if_neg (by simp only[decide_eq_true_eq];exact fun h=>hss (pS hfm hs h))]
    rw[er,hf.call,af]
    cases hfv:f (k:Int) (rdy n (lab best (aI n z)) (decide (aI n z=ixN (plc n) s))) with
    |none=>rfl
    |some d=>
     obtain⟨r1,r2,r3,r4⟩:=cY (n:=n) (by omega) (hf.ok hfv).1
     simp only[tbO,c7]
     rw[qp hn r1 r2 r3 r4,af]
     by_cases h2:enN n (k:Int) d=e
     ·rw[if_pos h2,if_pos h2]
     ·rw[if_neg h2,if_neg h2]
  ·rw[if_neg h0,if_neg h0]
end Go.Vs
namespace Go.Vs
open Go.IntWalk
theorem Bn (Q:Nat→Prop):∀(m:Nat),Q m→∃y,y≤m∧Q y∧∀u,u<y→¬Q u
 |0,h=>⟨0,Nat.le_refl _,h,fun u hu=>absurd hu (Nat.not_lt_zero u)⟩
 |m+1,h=>by
  rcases Classical.em (∃u,u<m+1∧Q u) with⟨u,h1,h2⟩|h3
  ·rcases Nat.lt_or_ge u m with hu|hu
   ·obtain⟨y,y1,y2,y3⟩:=Bn (fun k=>k≤m∧Q k∨k=m) m (.inr rfl)
    rcases Classical.em (∃u,u≤m∧Q u) with h4|h4
    ·obtain⟨u,g1,g2⟩:=h4
     rcases y2 with⟨_,y2⟩|y2
     ·exact⟨y,by omega,y2,fun v hv hq=>y3 v hv (.inl ⟨by omega,hq⟩)⟩
     ·subst y2
      rcases Nat.lt_or_ge u y with hh|hh
      ·exact absurd (.inl ⟨g1,g2⟩) (y3 u hh)
      ·obtain rfl:u=y:=by omega
       exact⟨u,by omega,g2,fun v hv hq=>y3 v hv (.inl ⟨by omega,hq⟩)⟩
    ·exact absurd ⟨u,by omega,h2⟩ h4
   ·obtain rfl:u=m:=by omega
    obtain⟨y,y1,y2,y3⟩:=Bn Q u h2
    exact⟨y,by omega,y2,y3⟩
  ·exact⟨m+1,Nat.le_refl _,h,fun u hu hq=>h3 ⟨u,hu,hq⟩⟩
theorem uI {n:Network} {f:Int→Int→Option Int} {s:ByteArray} {a m:Int} (h1:s∈plc n) (h2:a≤100000) (h3:0≤m):j8 n f s a m=itr n f (ixN (plc n) s) m.toNat (e8 n (ixN (plc n) s) a):=by
 unfold j8
 rw[if_neg (by simp[h1];omega)]
theorem wl1 {fd:Fd} {n:Network} {f:Int→Int→Option Int} (hn:NetOk n) (hf:Find fd n f) {s:ByteArray} {a:Int} (hs:s∈plc n) (ha:a≤100000) {x2:Int} (hx:0≤x2):∀(m k:Nat),k+m≤1000→
 dD G.real TE.real n fd s a x2 m (k:Int) ((List.range k).map fun j=>itr n f (ixN (plc n) s) j (e8 n (ixN (plc n) s) a))=some (.out ((List.range (k+m)).map fun j=>itr n f (ixN (plc n) s) j (e8 n (ixN (plc n) s) a)))
 |0,k,_=>by rw[dD];rfl
 |m+1,k,h=>by
  have hi:=(bM hs).1
  rw[dD,yh hn hf s a (by omega),uI hs ha (by omega),af]
  simp only[dM,ea,eB,bW,am,aU,bx,Int.toNat_natCast]
  rw[fq,dv,if_neg (by omega),if_neg (by omega),w64 (by omega) (by omega),ah (by simp;omega),show(k:Int)+1=((k+1:Nat):Int) from by omega]
  have:=wl1 hn hf hs ha hx m (k+1) (by omega)
  rw[List.range_succ,List.map_append,List.map_cons,List.map_nil] at this
  rw[this,show k+1+m=k+(m+1) by omega]
theorem wl2 {R:Nat→List Int} {P p:Nat} {x5:Int} (hP:P≤1000) (hp:∀m,p<(R m).length):∀(d fuel v:Nat),d<fuel→v+d≤P→(∀u,v≤u→u<v+d→lab (R u) p≠x5)→lab (R (v+d)) p=x5→
 fy G.real TE.real (p:Int) x5 ((List.range (P+1)).map R) fuel (v:Int)=some ((v+d:Nat):Int)
 |d,0,v,h,_,_,_=>absurd h (Nat.not_lt_zero d)
 |d,fuel+1,v,h,h1,h2,h3=>by
  have g:((List.range (P+1)).map R)[v]?=some (R v):=by
   rw[List.getElem?_map,List.getElem?_range (by omega)];rfl
  have hp1:=hp v
  rw[fy]
  simp only[bE,Int.toNat_natCast,rr,bW,dM,am,bx]
  rw[ar g,ah (by simp;omega),ah (by omega),ar (dc hp1)]
  cases d with
  |zero=>rw[if_pos (show lab (R v) p=x5 from h3)];rfl
  |succ d=>
   rw[if_neg (h2 v (by omega) (by omega)),w64 (by omega) (by omega),show(v:Int)+1=((v+1:Nat):Int) from by omega,wl2 hP hp d fuel (v+1) (by omega) (by omega) (fun u g1 g2=>h2 u (by omega) (by omega)) (by rw[show v+1+d=v+(d+1) by omega];exact h3),show v+1+d=v+(d+1) by omega]
theorem y6 {n:Network} {f:Int→Int→Option Int} {st:Nat} {best:List Int} {x:ByteArray} {e:Int} {t:Trip} (h:stF n f st best x e n.Legs 0=some t):0≤t.Leg∧t.Leg<n.Legs.length:=by
 obtain⟨j,z,q1,q2,q3,q4⟩:=rJ (n:=n) (f:=f) (st:=st) n.Legs 0 (by simp) h
 have hj:j<n.Legs.length:=by
  rcases Nat.lt_or_ge j n.Legs.length with hh|hh
  ·exact hh
  ·rw[List.getElem?_eq_none hh] at q1;cases q1
 omega
theorem wl3 {fd:Fd} {n:Network} {f:Int→Int→Option Int} (hn:NetOk n) (hf:Find fd n f) {s:ByteArray} (hs:s∈plc n) {b0:List Int} (hl:b0.length=(plc n).length) (hb:∀i,lab b0 i≤100000) {P:Nat} (hP:P≤1000):∀(k fuel:Nat) (x:ByteArray) (e:Int) (acc r:List Trip),k<fuel→k≤P→x∈plc n→acc.length+k≤1000→chF n f (ixN (plc n) s) b0 k x e acc.reverse=some r→
 ei G.real TE.real n fd s (plc n) ((List.range (P+1)).map fun j=>itr n f (ixN (plc n) s) j b0) fuel ((ixN (plc n) x:Nat):Int) e (k:Int) acc=some (.out r.reverse)
 |k,0,x,e,acc,r,h,_,_,_,_=>absurd h (Nat.not_lt_zero k)
 |0,fuel+1,x,e,acc,r,h,h1,hx,h2,hc=>by
  rw[chF] at hc
  cases hc
  rw[ei]
  simp only[ea,am]
  rw[if_neg (by omega),List.reverse_reverse]
 |k+1,fuel+1,x,e,acc,r,h,h1,hx,h2,hc=>by
  have hok:FOk n f:=⟨hn,hf.ok⟩
  have pl:=cZ n
  have hlen:=hn.len
  have g:((List.range (P+1)).map fun j=>itr n f (ixN (plc n) s) j b0)[k]?=some (itr n f (ixN (plc n) s) k b0):=by
   rw[List.getElem?_map,List.getElem?_range (by omega)];rfl
  rw[chF] at hc
  rw[ei]
  have hwr:G.real.wrap .i64 (G.real.sub ((k+1:Nat):Int) 1)=(k:Int):=by rw[kQ,w64 (by omega) (by omega)];omega
  simp only[ea,am,hwr,bE,Int.toNat_natCast]
  rw[if_pos (by omega),ar g,ah (by simp;omega)]
  unfold lC
  have hl2:=(fq (n:=n) (f:=f) (st:=ixN (plc n) s) k b0).trans hl
  have hb2:=xO (st:=ixN (plc n) s) hok k hl hb
  rw[show(0:Int)=((0:Nat):Int) from rfl,AY hn hf hl2 hb2 hs hx e n.Legs 0 (by simp),af]
  cases ht:stF n f (ixN (plc n) s) (itr n f (ixN (plc n) s) k b0) x e n.Legs ((0:Nat):Int) with
  |none=>rw[show((0:Nat):Int)=0 from rfl] at ht;rw[ht] at hc;cases hc
  |some t=>
   rw[show((0:Nat):Int)=0 from rfl] at ht
   rw[ht] at hc
   obtain⟨t2,t3⟩:=y6 ht
   have hfm:(lgOf n t.Leg).From∈plc n:=(cw n _).2 ⟨_,jT t2 t3,.inl rfl⟩
   have hi:=(bM hfm).1
   simp only[Bg,aU,af,c7]
   rw[ah (by simp;omega),ah (by omega),ar (cU t2 t3)]
   simp only[pi (show(plc n).length≤4194304 by omega),iH hfm,bW]
   rw[ah (by simp;omega),ah (by omega),Int.toNat_natCast,ar (dc (by omega))]
   refine wl3 hn hf hs hl hb hP k fuel _ _ _ r (by omega) (by omega) hfm (by simp;omega) ?_
   rw[List.reverse_append]
   exact hc
theorem wl4 (y:List Trip) (hy:y.length≤2000):∀(k fuel:Nat) (acc:List Trip),k<fuel→k≤y.length→acc.length+k≤2000→
 ej G.real TE.real y fuel acc ((k:Int)-1)=some (acc++(y.take k).reverse)
 |k,0,acc,h,_,_=>absurd h (Nat.not_lt_zero k)
 |0,fuel+1,acc,h,h1,h2=>by
  rw[ej]
  simp only[jI,am]
  rw[if_neg (by omega)];simp
 |k+1,fuel+1,acc,h,h1,h2=>by
  rw[ej]
  simp only[jI,am,bE,kQ,aU,mo]
  rw[show((k+1:Nat):Int)-1=(k:Int) from by omega,if_pos (by omega),ah (by omega),Int.toNat_natCast,ar (List.getElem?_eq_getElem (show k<y.length by omega)),ah (by simp;omega),w64 (by omega) (by omega),wl4 y hy k fuel _ (by omega) (by omega) (by simp;omega)]
  congr 1
  rw[List.take_add_one,List.getElem?_eq_getElem (show k<y.length by omega),List.reverse_append]
  simp
end Go.Vs
namespace Go.Vs
open Go.IntWalk
theorem DM {n:Network} (hn:NetOk n) (l at_:Int):iv G.real TE.real n l at_=some (dyO (fN n l at_)):=CA hn l at_
theorem yw {n:Network} (hn:NetOk n) {best:List Int} (hl:best.length=(plc n).length) (hb:∀i,lab best i≤100000) {st:Nat} {x:ByteArray} (hx:x∈plc n) (e:Int):∀(ls:List Leg) (k:Nat),n.Legs.drop k=ls→
 ct G.real TE.real n (plc n) best (st:Int) ((ixN (plc n) x:Nat):Int) e ls (k:Int)=some (match stF n (fN n) st best x e ls (k:Int) with|some t=>.ret t|none=>.out ())
 |[],k,_=>by rw[ct,stF]
 |z::ls,k,hd=>by
  have hlen:=hn.len
  have hk:k<n.Legs.length:=by
   have:=congrArg List.length hd
   simp at this;omega
  have hz:n.Legs[k]?=some z:=by
   have:(n.Legs.drop k)[0]?=some z:=by rw[hd];rfl
   simpa using this
  have hd2:n.Legs.drop (k+1)=ls:=by
   have:=congrArg List.tail hd
   simpa using this
  have hm:=List.mem_of_getElem? hz
  obtain⟨ha,hbz⟩:=j6 hm
  have pl:=cZ n
  have hfm:z.From∈plc n:=(cw n _).2 ⟨z,hm,.inl rfl⟩
  have e1:ix (plc n) z.From=(aI n z:Int):=iH hfm
  have hk1:(k:Int)+1=((k+1:Nat):Int):=by omega
  rw[ct,stF]
  simp only[aU,tD (show(plc n).length≤4194304 by omega),e1,bE,Int.toNat_natCast,ea,jI,bx,dM,fT,am]
  rw[ah (by omega),ar (bM hx).2,w64 (n:=(k:Int)+1) (by omega) (by omega),hk1,yw hn hl hb hx e ls (k+1) hd2]
  by_cases h0:z.To=x
  ·rw[if_pos h0,if_pos h0,ah (by omega),ar (dc (l:=best) (by omega))]
   unfold dyv
   by_cases h1:lab best (aI n z)<0
   ·rw[if_pos h1,if_pos h1]
   ·rw[if_neg h1,if_neg h1,ah (by omega)]
    have hxx:=hb (aI n z)
    have hc:=hn.change
    have er:fJ G.real TE.real n (lab best (aI n z)) (decide ((aI n z:Int)=(st:Int)))=rdy n (lab best (aI n z)) (decide (aI n z=st)):=by
     unfold fJ rdy
     simp only[bx,am]
     rw[w64 (by omega) (by omega)]
     by_cases hs:aI n z=st
     ·rw[if_pos (by omega),if_pos (by simp[hs])]
     ·rw[if_neg (by omega),if_neg (by simp[hs])]
    rw[er,DM hn,af]
    cases hfv:fN n (k:Int) (rdy n (lab best (aI n z)) (decide (aI n z=st))) with
    |none=>
     rw[if_neg (show¬(0:Int)≤dyO none by show¬(0:Int)≤ -1;omega)]
    |some d=>
     obtain⟨r1,r2,r3,r4⟩:=cY (n:=n) (by omega) ((cT hn).ok hfv).1
     rw[if_pos (show(0:Int)≤dyO (some d) from r3),show dyO (some d)=d from rfl,BQ hn r1 r2 r3 r4,af]
     by_cases h2:enN n (k:Int) d=e
     ·simp only[if_pos h2]
     ·simp only[if_neg h2]
  ·rw[if_neg h0,if_neg h0]
theorem Hy {n:Network} {s:ByteArray} {a:Int} {R:Nat→List Int} {p:Nat} {x5:Int} (hR:∀m:Nat,aR G.real TE.real n s a (m:Int)=some (R m)∨1000<m) (hp:∀m,p<(R m).length):∀(d fuel v:Nat),d<fuel→v+d≤1000→(∀u,v≤u→u<v+d→lab (R u) p≠x5)→lab (R (v+d)) p=x5→
 dW G.real TE.real n s a x5 (p:Int) fuel (v:Int)=some ((v+d:Nat):Int)
 |d,0,v,h,_,_,_=>absurd h (Nat.not_lt_zero d)
 |d,fuel+1,v,h,h1,h2,h3=>by
  have hp1:=hp v
  have hr:aR G.real TE.real n s a (v:Int)=some (R v):=by
   rcases hR v with hr|hr
   ·exact hr
   ·omega
  rw[dW,hr,af]
  simp only[bE,Int.toNat_natCast,bW,dM,am,bx]
  rw[ah (by omega),ar (dc hp1)]
  cases d with
  |zero=>rw[if_pos (show lab (R v) p=x5 from h3)];rfl
  |succ d=>
   rw[if_neg (h2 v (by omega) (by omega)),w64 (by omega) (by omega),show(v:Int)+1=((v+1:Nat):Int) from by omega,Hy hR hp d fuel (v+1) (by omega) (by omega) (fun u g1 g2=>h2 u (by omega) (by omega)) (by rw[show v+1+d=v+(d+1) by omega];exact h3),show v+1+d=v+(d+1) by omega]
theorem GS {n:Network} {a:Int} (hn:NetOk n) {s:ByteArray} {b0:List Int} (hl:b0.length=(plc n).length) (hb:∀i,lab b0 i≤100000)
 (hR:∀m:Nat,aR G.real TE.real n s a (m:Int)=some (itr n (fN n) (ixN (plc n) s) m b0)∨1000<m):∀(k fuel:Nat) (x:ByteArray) (e:Int) (acc r:List Trip),k<fuel→k≤1000→x∈plc n→acc.length+k≤1000→chF n (fN n) (ixN (plc n) s) b0 k x e acc=some r→
 dd G.real TE.real n s a (plc n) ((ixN (plc n) s:Nat):Int) fuel e ((ixN (plc n) x:Nat):Int) acc (k:Int)=some r
 |k,0,x,e,acc,r,h,_,_,_,_=>absurd h (Nat.not_lt_zero k)
 |0,fuel+1,x,e,acc,r,h,h1,hx,h2,hc=>by
  rw[chF] at hc
  cases hc
  rw[dd]
  simp only[ea,am]
  rw[if_neg (by omega)]
 |k+1,fuel+1,x,e,acc,r,h,h1,hx,h2,hc=>by
  have hok:FOk n (fN n):=⟨hn,(cT hn).ok⟩
  have pl:=cZ n
  have hlen:=hn.len
  have hr:aR G.real TE.real n s a (k:Int)=some (itr n (fN n) (ixN (plc n) s) k b0):=by
   rcases hR k with hr|hr
   ·exact hr
   ·omega
  rw[chF] at hc
  rw[dd]
  simp only[ea,am,kQ,bE]
  rw[if_pos (by omega),w64 (by omega) (by omega),show((k+1:Nat):Int)-1=(k:Int) from by omega,hr,af]
  unfold nL
  have hl2:=(fq (n:=n) (f:=fN n) (st:=ixN (plc n) s) k b0).trans hl
  have hb2:=xO (st:=ixN (plc n) s) hok k hl hb
  rw[show(0:Int)=((0:Nat):Int) from rfl,yw hn hl2 hb2 hx e n.Legs 0 (by simp),af]
  cases ht:stF n (fN n) (ixN (plc n) s) (itr n (fN n) (ixN (plc n) s) k b0) x e n.Legs ((0:Nat):Int) with
  |none=>rw[show((0:Nat):Int)=0 from rfl] at ht;rw[ht] at hc;cases hc
  |some t=>
   rw[show((0:Nat):Int)=0 from rfl] at ht
   rw[ht] at hc
   obtain⟨t2,t3⟩:=y6 ht
   have hfm:(lgOf n t.Leg).From∈plc n:=(cw n _).2 ⟨_,jT t2 t3,.inl rfl⟩
   have hi:=(bM hfm).1
   simp only[Bg,aU,af]
   rw[ah (by simp;omega),ah (by omega),ar (cU t2 t3)]
   simp only[tD (show(plc n).length≤4194304 by omega),iH hfm,bW]
   rw[ah (by omega),Int.toNat_natCast,ar (dc (by omega))]
   exact GS hn hl hb hR k fuel _ _ _ r (by omega) (by omega) hfm (by simp;omega) hc
def gn (n:Network) (p:ByteArray):ByteArray→Int→List Trip→Prop
 |x,_,[]=>x=p
 |x,a,t::l=>runsB n t.Leg t.Day=true∧(lgOf n t.Leg).From=x∧a≤stN n t.Leg t.Day∧gn n p (lgOf n t.Leg).To (enN n t.Leg t.Day+n.Change) l
theorem qk {n:Network} {f:Int→Int→Option Int} {st:Nat} (h:FOk n f):∀(m:Nat) {best:List Int} {i:Nat},best.length=(plc n).length→0≤lab best i→0≤lab (itr n f st m best) i∧lab (itr n f st m best) i≤lab best i
 |0,best,i,_,h0=>⟨h0,Int.le_refl _⟩
 |m+1,best,i,hl,h0=>by
  have h1:=rp (st:=st) h hl h0
  have h2:=qk (st:=st) h m (ig.trans hl) h1.1
  exact⟨h2.1,Int.le_trans h2.2 h1.2⟩
theorem ux {n:Network} {f:Int→Int→Option Int} {st:Nat} (h:FOk n f) {c:Int}:∀(m:Nat) {best:List Int},best.length=(plc n).length→(∀i,0≤lab best i→c≤lab best i)→∀i,0≤lab (itr n f st m best) i→c≤lab (itr n f st m best) i
 |0,best,_,hb,i,h0=>hb i h0
 |m+1,best,hl,hb,i,h0=>ux h m (ig.trans hl) (fun j hj=>by
   rcases(gb (st:=st) h hl j).1 with e|⟨k,z,e,g1,g2,g3,g4,g5⟩
   ·rw[e] at hj ⊢;exact hb j hj
   ·obtain⟨q1,q2,_⟩:=gY h g3
    have:=hb _ q1
    omega) i h0
theorem yF {n:Network} {f:Int→Int→Option Int} {st:Nat} {best:List Int} {x:ByteArray} {e:Int}:∀(ls:List Leg) (k:Nat) {t:Trip},n.Legs.drop k=ls→stF n f st best x e ls (k:Int)=some t→
 ∃(z:Leg),lgOf n t.Leg=z∧z∈n.Legs∧0≤t.Leg∧t.Leg<n.Legs.length∧z.To=x∧dyv n f st best z t.Leg=some t.Day∧enN n t.Leg t.Day=e
 |[],k,t,_,h=>by rw[stF] at h;cases h
 |z::ls,k,t,hd,h=>by
  have hk:k<n.Legs.length:=by
   have:=congrArg List.length hd
   simp at this;omega
  have hz:n.Legs[k]?=some z:=by
   have:(n.Legs.drop k)[0]?=some z:=by rw[hd];rfl
   simpa using this
  have hd2:n.Legs.drop (k+1)=ls:=by
   have:=congrArg List.tail hd
   simpa using this
  have ih:stF n f st best x e ls ((k:Int)+1)=some t→_:=fun h=>yF ls (k+1) hd2 (by rw[←h];rfl)
  rw[stF] at h
  split at h
  ·rename_i hto
   split at h
   ·rename_i d hdv
    split at h
    ·rename_i he
     cases h
     have hl:=cU (n:=n) (l:=(k:Int)) (by omega) (by omega)
     rw[Int.toNat_natCast,hz] at hl
     exact⟨z,(Option.some.inj hl).symm,List.mem_of_getElem? hz,by show(0:Int)≤(k:Int);omega,by show(k:Int)<_;omega,hto,hdv,he⟩
    ·exact ih h
   ·exact ih h
  ·exact ih h
theorem vW {n:Network} (hn:NetOk n) {a:Int} {s p:ByteArray} (hs:s∈plc n) {b0:List Int} (hb:b0=e8 n (ixN (plc n) s) a):∀(k:Nat) (x:ByteArray) (e:Int) (acc r:List Trip),x∈plc n→e=lab (itr n (fN n) (ixN (plc n) s) k b0) (ixN (plc n) x)→0≤e→gn n p x (rdy n e (decide (ixN (plc n) x=ixN (plc n) s))) acc→
 chF n (fN n) (ixN (plc n) s) b0 k x e acc=some r→gn n p s (max a 0) r
 |0,x,e,acc,r,hx,he,h0,hp,hc=>by
  rw[chF] at hc
  cases hc
  have h1:e=lab (e8 n (ixN (plc n) s) a) (ixN (plc n) x):=by rw[he,hb];rfl
  rw[fW (bM hs).1] at h1
  split at h1
  ·rename_i hh
   have:=pS hx hs hh
   subst this
   rw[←h1]
   unfold rdy at hp
   rw[if_pos (by simp)] at hp
   exact hp
  ·omega
 |k+1,x,e,acc,r,hx,he,h0,hp,hc=>by
  have hok:FOk n (fN n):=⟨hn,(cT hn).ok⟩
  have hl:b0.length=(plc n).length:=by rw[hb];exact dv _ _ _
  have hlow0:∀i,0≤lab b0 i→max a 0≤lab b0 i:=fun i hi=>by
   rw[hb,fW (bM hs).1] at hi ⊢
   split at hi
   ·rw[if_pos ‹_›];exact Int.le_refl _
   ·omega
  rw[chF] at hc
  split at hc
  ·rename_i t ht
   obtain⟨z,z1,z2,z3,z4,z5,z6,z7⟩:=yF (n:=n) n.Legs 0 (by simp) ht
   have hfm:(lgOf n t.Leg).From∈plc n:=(cw n _).2 ⟨_,by rw[z1];exact z2,.inl rfl⟩
   unfold dyv at z6
   split at z6
   ·cases z6
   ·rename_i hge
    have hai:aI n z=ixN (plc n) (lgOf n t.Leg).From:=by rw[z1];rfl
    rw[hai] at hge z6
    have hd:=qa z6
    have hpn:=hd.1
    unfold pN at hpn
    rw[Bool.and_eq_true,decide_eq_true_eq] at hpn
    have hc2:=hn.change
    have hlow:=ux (st:=ixN (plc n) s) hok k hl hlow0 (ixN (plc n) (lgOf n t.Leg).From) (by omega)
    obtain⟨r1,r2,r3,r4⟩:=cY (n:=n) (by have:=hn.len;omega) hpn.1
    obtain⟨q1,q2,q3,q4⟩:=jg hn r1 r2 r3 r4
    have hrd:lab (itr n (fN n) (ixN (plc n) s) k b0) (ixN (plc n) (lgOf n t.Leg).From)≤stN n t.Leg t.Day:=by
     have h3:=hpn.2
     unfold rdy at h3
     split at h3<;>omega
    have hne:ixN (plc n) x≠ixN (plc n) s:=fun hh=>by
     have hxs:=pS hx hs hh
     subst hxs
     have hst0:lab b0 (ixN (plc n) x)=max a 0:=by rw[hb,fW (bM hs).1,if_pos rfl]
     have hm:=(qk (st:=ixN (plc n) x) hok (k+1) (i:=ixN (plc n) x) hl (by rw[hst0];omega)).2
     rw[hst0,←he,←z7] at hm
     omega
    refine vW hn hs hb k _ _ (t::acc) r hfm rfl (by omega) ⟨hpn.1,rfl,?_,?_⟩ hc
    ·exact hpn.2
    ·unfold rdy at hp
     rw[if_neg (by simp[hne])] at hp
     rw[z7,z1,z5];exact hp
  ·cases hc
theorem FN {n:Network} (ht:n.tot≤1048576) (s p:ByteArray) (a:Int):
 ∃r,jJ G.real TE.real n s p a=some r∧iq G.real TE.real n s p a=some r∧r.1.length≤40∧(r.2=true→netB n=true∧s∈plc n∧p∈plc n∧a≤100000∧gn n p s (max a 0) r.1):=by
 have pl:=cZ n
 have hlen:=eX ht
 unfold jJ iq jx
 rw[vK (by omega),ea_s ht hlen,su ht]
 simp only[af,aU,eB,gN,tD (show(plc n).length≤4194304 by omega)]
 simp only[ea,dM,bE,bW,am]
 cases hb:netB n with
 |false=>
  have e:eaB n s p a= -1:=by unfold eaB;rw[if_neg (by simp[hb])]
  refine⟨([],false),?_,rfl,by simp,fun h=>by cases h⟩
  rw[e]
  rfl
 |true=>
  have hn:=iE ht hb
  have hlen:=hn.len
  rw[c7]
  have hf:=cT hn
  have hok:FOk n (fN n):=⟨hn,hf.ok⟩
  have hea:eaB n s p a=if s∈plc n∧p∈plc n∧a≤100000 then lab (j8 n (fN n) s a ((plc n).length:Nat)) (ixN (plc n) p) else-1:=by
   unfold eaB
   by_cases h:s∈plc n∧p∈plc n∧a≤100000
   ·rw[if_pos h,if_pos ⟨hb,h.1,h.2.2,h.2.1⟩]
   ·rw[if_neg h,if_neg (fun q=>h ⟨q.2.1,q.2.2.2,q.2.2.1⟩)]
  unfold pD
  rw[wm (by omega)]
  simp only[af,aU,eB,gN,pi (show(plc n).length≤4194304 by omega),ea,bE,bW,am,kQ,rr]
  rw[ah (c:=((plc n).length:Int)≤4611686018427387904) (by omega),show df 0 ((plc n).length:Int)=(plc n).length+1 from by unfold df;omega]
  by_cases h1:s∈plc n∧a≤100000
  ·by_cases h2:p∈plc n
   ·
    have hi:=bM h1.1
    have hj:=bM h2
    have hR:∀m:Int,0≤m→j8 n (fN n) s a m=itr n (fN n) (ixN (plc n) s) m.toNat (e8 n (ixN (plc n) s) a):=fun m hm=>uI h1.1 h1.2 hm
    have hll:=dv n (ixN (plc n) s) a
    have hlb:=tH (n:=n) hi.1 h1.2
    have hW:=wl1 hn hf (a:=a) h1.1 h1.2 (x2:=ix (plc n) p) (by rw[iH h2];omega) ((plc n).length+1) 0 (by omega)
    rw[show(0:Int)=((0:Nat):Int) from rfl]
    rw[show([]:List (List Int))=((List.range 0).map fun j=>itr n (fN n) (ixN (plc n) s) j (e8 n (ixN (plc n) s) a)) from rfl,hW,Nat.zero_add]
    simp only[af,tZ]
    have g:((List.range ((plc n).length+1)).map fun j=>itr n (fN n) (ixN (plc n) s) j (e8 n (ixN (plc n) s) a))[(plc n).length]?=some (itr n (fN n) (ixN (plc n) s) (plc n).length (e8 n (ixN (plc n) s) a)):=by
     rw[List.getElem?_map,List.getElem?_range (by omega)];rfl
    have hp:∀m,ixN (plc n) p<(itr n (fN n) (ixN (plc n) s) m (e8 n (ixN (plc n) s) a)).length:=fun m=>by rw[fq,hll];exact hj.1
    have hpP:=hp (plc n).length
    rw[if_pos ⟨h1.1,h2,h1.2⟩] at hea
    rw[hea,hR _ (by omega),Int.toNat_natCast,iH h2,iH h1.1]
    by_cases h3:lab (itr n (fN n) (ixN (plc n) s) (plc n).length (e8 n (ixN (plc n) s) a)) (ixN (plc n) p)<((0:Nat):Int)
    ·refine⟨([],false),?_,?_,by simp,fun h=>by cases h⟩
     ·rw[if_pos h3]
     ·rw[ar g,ah (by simp;omega),ah (by omega),Int.toNat_natCast,ar (dc hpP),if_pos h3];rfl
    ·have hRS:∀m:Nat,aR G.real TE.real n s a (m:Int)=some (itr n (fN n) (ixN (plc n) s) m (e8 n (ixN (plc n) s) a))∨1000<m:=fun m=>by
      rcases Nat.lt_or_ge 1000 m with hm|hm
      ·exact .inr hm
      ·left;rw[Gv hn ht hb s a (by omega),hR _ (by omega),Int.toNat_natCast]
     obtain⟨y,y1,y2,y3⟩:=Bn (fun m=>lab (itr n (fN n) (ixN (plc n) s) m (e8 n (ixN (plc n) s) a)) (ixN (plc n) p)=lab (itr n (fN n) (ixN (plc n) s) (plc n).length (e8 n (ixN (plc n) s) a)) (ixN (plc n) p)) (plc n).length rfl
     have q1:=wl2 (R:=fun m=>itr n (fN n) (ixN (plc n) s) m (e8 n (ixN (plc n) s) a)) (P:=(plc n).length) (p:=ixN (plc n) p) (by omega) hp y 1000000000 0 (by omega) (by omega) (fun u _ hu=>y3 u (by omega)) (by rw[Nat.zero_add];exact y2)
     have q2:=Hy (R:=fun m=>itr n (fN n) (ixN (plc n) s) m (e8 n (ixN (plc n) s) a)) (p:=ixN (plc n) p) hRS hp y 1000000000 0 (by omega) (by omega) (fun u _ hu=>y3 u (by omega)) (by rw[Nat.zero_add];exact y2)
     rw[Nat.zero_add] at q1 q2
     obtain⟨r,r1,r2⟩:=CJ hok hll y (x:=p) [] h2 (fun j hj=>by
      subst hj
      intro he
      exact y3 j (by omega) (he.symm.trans y2))
     have hpath:=vW hn h1.1 rfl y p _ [] r h2 rfl (by rw[y2];omega) (show gn n p p _ [] from rfl) r1
     rw[y2] at r1
     have q3:=GS hn hll hlb hRS y 1000000000 p _ [] r (by omega) (by omega) h2 (by simp;omega) r1
     have q4:=wl3 hn hf h1.1 hll hlb (P:=(plc n).length) (by omega) y 1000000000 p _ [] r (by omega) (by omega) h2 (by simp;omega) r1
     simp only[List.length_nil,Nat.zero_add] at r2
     refine⟨(r,true),?_,?_,by simp;omega,fun _=>⟨trivial,h1.1,h2,h1.2,hpath⟩⟩
     ·rw[if_neg h3,q2,af,q3,af]
     ·rw[ar g,ah (by simp;omega),ah (by omega),Int.toNat_natCast,ar (dc hpP),if_neg h3,q1]
      simp only[af]
      rw[q4]
      simp only[af,tZ,mo,List.length_reverse]
      have q5:=wl4 r.reverse (by simp;omega) r.length 1000000000 [] (by omega) (by simp) (by simp;omega)
      rw[w64 (by omega) (by omega),q5,List.take_of_length_le (by simp),List.reverse_reverse,List.nil_append]
      rfl
   ·refine⟨([],false),?_,?_,by simp,fun h=>by cases h⟩
    ·rw[if_neg (fun h=>h2 h.2.1)] at hea
     rw[hea,if_pos (by omega)]
    ·have hla:=qY (n:=n) (f:=fN n) (m:=0) h1.1 h1.2 (by omega)
     have hi:=(bM h1.1).1
     rw[dD,yh hn hf s a (by omega),af]
     simp only[dM,ea,eB,bW,am]
     rw[hla,if_neg (by omega),if_pos (qU.2 h2)];rfl
  ·have e:∀m:Int,j8 n (fN n) s a m=[]:=fun m=>by
    unfold j8
    rw[if_pos]
    by_cases h2:s∈plc n
    ·right;left
     have:¬a≤100000:=fun h=>h1 ⟨h2,h⟩
     omega
    ·exact .inl h2
   refine⟨([],false),?_,?_,by simp,fun h=>by cases h⟩
   ·rw[if_neg (fun h=>h1 ⟨h.1,h.2.2⟩)] at hea
    rw[hea,if_pos (by omega)]
   ·rw[dD,yh hn hf s a (by omega),af,e]
    rfl
end Go.Vs
