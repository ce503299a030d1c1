/- Part of the proofs of this seat's laws: Ways. No condition. -/
import Derived.Test.YticpmdigfdpmfaaNet
import Derived.Test.YticpmdigfdpmfaaLac
import Derived.Test.YticpmdigfdpmfaaLaa
set_option linter.unusedVariables false
set_option linter.unusedSimpArgs false
set_option linter.unusedSectionVars false
namespace Go.Vs
open Go.IntWalk
def lab (l:List Int) (i:Nat):Int:=l.getD i (-1)
theorem bX {l:List Int} {i:Nat} (h:i<l.length):l[i]?=some (lab l i):=by
 unfold lab
 rw[List.getD_eq_getElem?_getD,List.getElem?_eq_getElem h];rfl
theorem nI {l:List Int} {i j:Nat} {x:Int} (h:i<l.length):lab (l.set i x) j=if i=j then x else lab l j:=by
 unfold lab
 rw[List.getD_eq_getElem?_getD,List.getD_eq_getElem?_getD,List.getElem?_set]
 by_cases e:i=j
 ·subst e;simp[h]
 ·simp[e]
def aI (n:Network) (z:Leg):Nat:=ixN (plc n) z.From
def bI (n:Network) (z:Leg):Nat:=ixN (plc n) z.To
def rdy (n:Network) (x:Int) (first:Bool):Int:=if first=true then x else x+n.Change
def via (n:Network) (f:Int→Int→Option Int) (st:Nat) (best:List Int) (z:Leg) (v:Int):Option Int:=
 if lab best (aI n z)<0 then none else(f v (rdy n (lab best (aI n z)) (decide (aI n z=st)))).map (enN n v)
def bh (out:List Int) (b:Nat) (e:Int):Prop:=lab out b<0∨e<lab out b
instance (out:List Int) (b:Nat) (e:Int):Decidable (bh out b e):=inferInstanceAs (Decidable (_∨_))
def fV (n:Network) (f:Int→Int→Option Int) (st:Nat) (best:List Int):List Leg→Int→List Int→List Int
 |[],_,out=>out
 |z::ls,v,out=>match via n f st best z v with
  |none=>fV n f st best ls (v+1) out
  |some e=>if bh out (bI n z) e then fV n f st best ls (v+1) (out.set (bI n z) e) else fV n f st best ls (v+1) out
def chg (n:Network) (f:Int→Int→Option Int) (st:Nat) (best:List Int):List Leg→Int→List Int→Bool
 |[],_,_=>false
 |z::ls,v,out=>match via n f st best z v with
  |none=>chg n f st best ls (v+1) out
  |some e=>if bh out (bI n z) e then true else chg n f st best ls (v+1) out
theorem ml {n:Network} {f:Int→Int→Option Int} {st:Nat} {best:List Int}:∀{ls:List Leg} {v:Int} {out:List Int},chg n f st best ls v out=false→fV n f st best ls v out=out
 |[],_,_,_=>rfl
 |z::ls,v,out,h=>by
  unfold chg at h
  unfold fV
  split at h
  ·exact ml h
  ·split at h
   ·cases h
   ·rename_i hb;simp only[if_neg hb];exact ml h
def rnd (n:Network) (f:Int→Int→Option Int) (st:Nat) (best:List Int):List Int:=fV n f st best n.Legs 0 best
def itr (n:Network) (f:Int→Int→Option Int) (st:Nat):Nat→List Int→List Int
 |0,best=>best
 |m+1,best=>itr n f st m (rnd n f st best)
theorem rl {n:Network} {f:Int→Int→Option Int} {st:Nat} {best:List Int} (h:rnd n f st best=best):∀m,itr n f st m best=best
 |0=>rfl
 |m+1=>by rw[itr,h,rl h m]
theorem qR {n:Network} {f:Int→Int→Option Int} {st:Nat}:∀(a b:Nat) (best:List Int),itr n f st (a+b) best=itr n f st b (itr n f st a best)
 |0,b,best=>by rw[Nat.zero_add];rfl
 |a+1,b,best=>by rw[show a+1+b=(a+b)+1 by omega,itr,itr,qR a b]
theorem fD {n:Network} {f:Int→Int→Option Int} {st:Nat} (m:Nat) (best:List Int):itr n f st (m+1) best=rnd n f st (itr n f st m best):=qR m 1 best
theorem jd {n:Network} {f:Int→Int→Option Int} {st:Nat} {best:List Int}:∀(ls:List Leg) (v:Int) (out:List Int),(fV n f st best ls v out).length=out.length
 |[],_,_=>rfl
 |z::ls,v,out=>by
  unfold fV
  split
  ·exact jd ls _ _
  ·split
   ·rw[jd ls];simp
   ·exact jd ls _ _
theorem eW {n:Network} {f:Int→Int→Option Int} {st:Nat}:∀(m:Nat) (best:List Int),(itr n f st m best).length=best.length
 |0,_=>rfl
 |m+1,best=>by rw[itr,eW m,rnd,jd]
theorem sG {n:Network} {f:Int→Int→Option Int} {st:Nat} {best:List Int} (hb:∀z∈n.Legs,bI n z<best.length) (he:∀z v e,via n f st best z v=some e→0≤e):∀(ls:List Leg) (k:Nat) (out:List Int),n.Legs.drop k=ls→out.length=best.length→∀i,
 (lab (fV n f st best ls (k:Int) out) i=lab out i∨∃j z e,n.Legs[j]?=some z∧k≤j∧bI n z=i∧via n f st best z (j:Int)=some e∧lab (fV n f st best ls (k:Int) out) i=e∧bh out i e)∧
 (∀j z e,n.Legs[j]?=some z→k≤j→bI n z=i→via n f st best z (j:Int)=some e→¬bh (fV n f st best ls (k:Int) out) i e)
 |[],k,out,hd,hl,i=>by
  refine⟨.inl rfl,fun j z e h1 h2 _ _=>?_⟩
  have:=List.drop_eq_nil_iff.1 hd
  rw[List.getElem?_eq_none (by omega)] at h1
  cases h1
 |z::ls,k,out,hd,hl,i=>by
  have hk:k<n.Legs.length:=by
   have:=congrArg List.length hd
   simp at this;omega
  have hz:n.Legs[k]?=some z:=by
   have:(n.Legs.drop k)[0]?=some z:=by rw[hd];rfl
   simpa using this
  have hd2:n.Legs.drop (k+1)=ls:=by
   have:=congrArg List.tail hd
   simpa using this
  have hbz:=hb z (List.mem_of_getElem? hz)
  have hk1:(k:Int)+1=((k+1:Nat):Int):=by omega
  have other:∀(o:List Int),o.length=best.length→(∀e,via n f st best z (k:Int)=some e→bI n z=i→¬bh o i e)→(∀e,bh o i e→bh out i e)→(lab o i=lab out i∨∃e,bI n z=i∧via n f st best z (k:Int)=some e∧lab o i=e∧bh out i e)→
   (lab (fV n f st best ls ((k+1:Nat):Int) o) i=lab out i∨∃j z e,n.Legs[j]?=some z∧k≤j∧bI n z=i∧via n f st best z (j:Int)=some e∧lab (fV n f st best ls ((k+1:Nat):Int) o) i=e∧bh out i e)∧
   (∀j z e,n.Legs[j]?=some z→k≤j→bI n z=i→via n f st best z (j:Int)=some e→¬bh (fV n f st best ls ((k+1:Nat):Int) o) i e):=by
   intro o ho h1 h2 h3
   obtain⟨a1,a2⟩:=sG hb he ls (k+1) o hd2 ho i
   refine⟨?_,fun j z' e g1 g2 g3 g4=>?_⟩
   ·rcases a1 with a1|⟨j,z',e,g1,g2,g3,g4,g5,g6⟩
    ·rw[a1]
     rcases h3 with h3|⟨e,h3,h4,h5,h6⟩
     ·exact .inl h3
     ·exact .inr ⟨k,z,e,hz,Nat.le_refl _,h3,h4,h5,h6⟩
    ·exact .inr ⟨j,z',e,g1,by omega,g3,g4,g5,h2 e g6⟩
   ·by_cases hj:j=k
    ·subst hj
     rw[hz] at g1
     cases g1
     have hnb:=h1 e g4 g3
     have h0:=he _ _ _ g4
     rcases a1 with a1|⟨j,z',e',q1,q2,q3,q4,q5,q6⟩
     ·unfold bh at hnb ⊢;rw[a1];exact hnb
     ·have h0':=he _ _ _ q4
      unfold bh at hnb q6 ⊢
      rw[q5];omega
    ·exact a2 j z' e g1 (by omega) g3 g4
  unfold fV
  split
  ·rename_i hv
   rw[hk1]
   exact other out hl (fun e h=>by rw[hv] at h;cases h) (fun _ h=>h) (.inl rfl)
  ·rename_i e hv
   have h0:=he _ _ _ hv
   rw[hk1]
   split
   ·rename_i hbt
    refine other (out.set (bI n z) e) (by simpa using hl) (fun e' h1 h2=>?_) (fun e' h=>?_) ?_
    ·rw[hv] at h1;cases h1
     unfold bh
     rw[nI (by omega),if_pos h2];omega
    ·unfold bh at h ⊢
     rw[nI (by omega)] at h
     split at h
     ·rename_i hbi
      subst hbi
      unfold bh at hbt
      omega
     ·exact h
    ·rw[nI (by omega)]
     by_cases hbi:bI n z=i
     ·rw[if_pos hbi];subst hbi;exact .inr ⟨e,rfl,hv,rfl,hbt⟩
     ·rw[if_neg hbi];exact .inl rfl
   ·rename_i hbt
    refine other out hl (fun e' h1 h2=>?_) (fun _ h=>h) (.inl rfl)
    rw[hv] at h1;cases h1
    subst h2
    exact hbt
end Go.Vs
namespace Go.Vs
open Go.IntWalk
theorem mQ:∀(m:Nat) (L:List Nat),L.Nodup→(∀w∈L,w<m)→L.length≤m
 |0,L,_,h=>by
  cases L with
  |nil=>simp
  |cons x l=>have:=h x (by simp);omega
 |m+1,L,hn,h=>by
  have h1:=mQ m (L.erase m) (hn.erase m) (fun w hw=>by
   have hw2:=List.mem_of_mem_erase hw
   have:=h w hw2
   have hne:w≠m:=fun e=>by
    subst e
    exact(List.Nodup.not_mem_erase hn) hw
   omega)
  have h2:=List.length_erase_le (a:=m) (l:=L)
  by_cases hm:m∈L
  ·rw[List.length_erase_of_mem hm] at h1;omega
  ·rw[List.erase_of_not_mem hm] at h1;omega
theorem ux {a b:List Int} (hl:a.length=b.length) (h:∀i,lab a i=lab b i):a=b:=by
 refine List.ext_getElem? fun i=>?_
 by_cases hi:i<a.length
 ·rw[bX hi,bX (by omega),h]
 ·rw[List.getElem?_eq_none (by omega),List.getElem?_eq_none (by omega)]
theorem zC {l:List Int} {i:Nat} (h:0≤lab l i):i<l.length:=by
 rcases Nat.lt_or_ge i l.length with hi|hi
 ·exact hi
 ·exfalso
  unfold lab at h
  rw[List.getD_eq_getElem?_getD,List.getElem?_eq_none hi] at h
  simp at h
section
variable {n:Network} {f:Int→Int→Option Int} {st:Nat}
theorem iK {z:Leg} (hz:z∈n.Legs):aI n z<(plc n).length∧bI n z<(plc n).length:=
 ⟨(cz ((dA n _).2 ⟨z,hz,.inl rfl⟩)).1,(cz ((dA n _).2 ⟨z,hz,.inr rfl⟩)).1⟩
structure FOk (n:Network) (f:Int→Int→Option Int):Prop where
 net:NetOk n
 ok:∀{l a d},f l a=some d→runsB n l d=true∧a≤stN n l d
theorem jC (h:FOk n f) {best:List Int} {z:Leg} {v e:Int} (hv:via n f st best z v=some e):0≤lab best (aI n z)∧lab best (aI n z)<e∧e≤92159∧∃d,f v (rdy n (lab best (aI n z)) (decide (aI n z=st)))=some d∧e=enN n v d:=by
 unfold via at hv
 split at hv
 ·cases hv
 ·rename_i h0
  simp only[Option.map_eq_some_iff] at hv
  obtain⟨d,h1,rfl⟩:=hv
  obtain⟨h2,h3⟩:=h.ok h1
  have hl:=h.net.len
  obtain⟨r1,r2,r3,r4⟩:=ee (n:=n) (by omega) h2
  obtain⟨q1,q2,q3,q4⟩:=nU h.net r1 r2 r3 r4
  have hc:=h.net.change
  have hr:lab best (aI n z)≤rdy n (lab best (aI n z)) (decide (aI n z=st)):=by unfold rdy;split<;>omega
  exact⟨by omega,by omega,q4,d,h1,rfl⟩
theorem qb {b1 b2:List Int} {z:Leg} (h:lab b1 (aI n z)=lab b2 (aI n z)) (v:Int):via n f st b1 z v=via n f st b2 z v:=by unfold via;rw[h]
theorem iP (h:FOk n f) {best:List Int} (hl:best.length=(plc n).length) (i:Nat):
 (lab (rnd n f st best) i=lab best i∨∃(j:Nat) (z:Leg) (e:Int),n.Legs[j]?=some z∧bI n z=i∧via n f st best z (j:Int)=some e∧lab (rnd n f st best) i=e∧bh best i e)∧
 (∀(j:Nat) (z:Leg) (e:Int),n.Legs[j]?=some z→bI n z=i→via n f st best z (j:Int)=some e→¬bh (rnd n f st best) i e):=by
 obtain⟨a1,a2⟩:=sG (n:=n) (f:=f) (st:=st) (best:=best) (fun z hz=>by rw[hl];exact(iK hz).2) (fun z v e hv=>by
  obtain⟨q1,q2,_⟩:=jC h hv;omega) n.Legs 0 best (by simp) rfl i
 refine⟨?_,fun j z e h1 h2 h3=>a2 j z e h1 (by omega) h2 h3⟩
 rcases a1 with a1|⟨j,z,e,g1,g2,g3,g4,g5,g6⟩
 ·exact .inl a1
 ·exact .inr ⟨j,z,e,g1,g3,g4,g5,g6⟩
theorem jS {best:List Int}:(rnd n f st best).length=best.length:=jd _ _ _
theorem s5 (h:FOk n f) {best:List Int} (hl:best.length=(plc n).length) {i:Nat} (h0:0≤lab best i):0≤lab (rnd n f st best) i∧lab (rnd n f st best) i≤lab best i:=by
 rcases(iP (st:=st) h hl i).1 with e|⟨j,z,e,g1,g2,g3,g4,g5⟩
 ·omega
 ·obtain⟨q1,q2,_⟩:=jC h g3
  unfold bh at g5
  omega
theorem vY (h:FOk n f) {best:List Int} (hl:best.length=(plc n).length) {i:Nat} (hc:lab (rnd n f st (rnd n f st best)) i≠lab (rnd n f st best) i):
 ∃u,lab (rnd n f st best) u≠lab best u∧0≤lab (rnd n f st best) u∧lab (rnd n f st best) u<lab (rnd n f st (rnd n f st best)) i∧bh (rnd n f st best) i (lab (rnd n f st (rnd n f st best)) i):=by
 rcases(iP (st:=st) h (jS.trans hl) i).1 with e|⟨j,z,e,g1,g2,g3,g4,g5⟩
 ·exact absurd e hc
 ·obtain⟨q1,q2,_⟩:=jC h g3
  refine⟨aI n z,fun he=>?_,q1,by omega,by rw[g4];exact g5⟩
  rw[qb he] at g3
  exact(iP (st:=st) h hl i).2 j z e g1 g2 g3 g5
theorem lU (h:FOk n f) {best:List Int} (hl:best.length=(plc n).length):∀(k i:Nat),lab (itr n f st (k+1) best) i≠lab (itr n f st k best) i→
 ∃L:List Nat,L.Nodup∧L.length=k+2∧∀w∈L,w<(plc n).length∧0≤lab (itr n f st (k+1) best) w∧lab (itr n f st (k+1) best) w≤lab (itr n f st (k+1) best) i
 |0,i,hc=>by
  have e1:itr n f st (0+1) best=rnd n f st best:=rfl
  rw[e1] at hc ⊢
  rcases(iP (st:=st) h hl i).1 with e|⟨j,z,e,g1,g2,g3,g4,g5⟩
  ·exact absurd e hc
  ·obtain⟨q1,q2,_⟩:=jC h g3
   have hi:=(iK (List.mem_of_getElem? g1)).2
   have hu:=(iK (List.mem_of_getElem? g1)).1
   rw[g2] at hi
   have hm:=s5 (st:=st) h hl q1
   refine⟨[i,aI n z],?_,rfl,fun w hw=>?_⟩
   ·simp only[List.nodup_cons,List.mem_singleton,List.not_mem_nil,not_false_eq_true,List.nodup_nil,and_self,and_true]
    intro e'
    rw[←e'] at q1 q2
    unfold bh at g5
    omega
   ·simp only[List.mem_cons,List.not_mem_nil,or_false] at hw
    rcases hw with rfl|rfl
    ·exact⟨hi,by omega,Int.le_refl _⟩
    ·exact⟨hu,hm.1,by omega⟩
 |k+1,i,hc=>by
  rw[fD (k+1),fD k] at hc
  obtain⟨u,hu,u0,u1,u2⟩:=vY h ((eW _ _).trans hl) hc
  rw[←fD k] at hu u0 u1 u2
  obtain⟨L,l1,l2,l3⟩:=lU h hl k u hu
  rw[fD (k+1)]
  have hlen:(itr n f st (k+1) best).length=(plc n).length:=by rw[eW];exact hl
  refine⟨i::L,List.nodup_cons.2 ⟨fun hi=>?_,l1⟩,by simp[l2],fun w hw=>?_⟩
  ·obtain⟨_,b1,b2⟩:=l3 i hi
   unfold bh at u2
   omega
  ·rcases List.mem_cons.1 hw with rfl|hw
   ·refine⟨?_,by omega,Int.le_refl _⟩
    have:w<(rnd n f st (itr n f st (k+1) best)).length:=zC (by omega)
    rwa [jS,hlen] at this
   ·obtain⟨b0,b1,b2⟩:=l3 w hw
    have hm:=s5 (st:=st) h hlen b1
    exact⟨b0,hm.1,by omega⟩
theorem yR (h:FOk n f) {best:List Int} (hl:best.length=(plc n).length) {k:Nat} (hk:(plc n).length≤k+1):rnd n f st (itr n f st k best)=itr n f st k best:=by
 refine ux jS fun i=>?_
 rcases Decidable.em (lab (rnd n f st (itr n f st k best)) i=lab (itr n f st k best) i) with e|e
 ·exact e
 ·exfalso
  rw[←fD] at e
  obtain⟨L,l1,l2,l3⟩:=lU h hl k i e
  have:=mQ _ L l1 fun w hw=>(l3 w hw).1
  omega
theorem zg (h:FOk n f) {best:List Int} (hl:best.length=(plc n).length) (m:Nat):itr n f st (min m (plc n).length) best=itr n f st m best:=by
 rcases Nat.le_total m (plc n).length with hm|hm
 ·rw[Nat.min_eq_left hm]
 ·rw[Nat.min_eq_right hm]
  obtain⟨k,rfl⟩:∃k,m=(plc n).length+k:=⟨m-(plc n).length,by omega⟩
  rw[qR,rl (yR h hl (by omega))]
theorem tB (h:FOk n f) {best:List Int} (hl:best.length=(plc n).length) (hb:∀i,lab best i≤100000) (i:Nat):lab (rnd n f st best) i≤100000:=by
 rcases(iP (st:=st) h hl i).1 with e|⟨j,z,e,g1,g2,g3,g4,g5⟩
 ·rw[e];exact hb i
 ·obtain⟨q1,q2,q3,_⟩:=jC h g3;omega
theorem tV (h:FOk n f):∀(m:Nat) {best:List Int},best.length=(plc n).length→(∀i,lab best i≤100000)→∀i,lab (itr n f st m best) i≤100000
 |0,best,_,hb,i=>hb i
 |m+1,best,hl,hb,i=>tV h m (jS.trans hl) (tB h hl hb) i
end
end Go.Vs
namespace Go.Vs
open Go.IntWalk
theorem yk {fd:Fd} {n:Network} {f:Int→Int→Option Int} (hn:NetOk n) (hf:Find fd n f) {best:List Int} (hl:best.length=(plc n).length) (hb:∀i,lab best i≤100000) {st:Nat}:∀(ls:List Leg) (k:Nat) (out:List Int) (ch:Bool),n.Legs.drop k=ls→out.length=(plc n).length→
 aV G.real TE.real n fd best (plc n) (st:Int) ls (k:Int) out ch=some (fV n f st best ls (k:Int) out,ch||chg n f st best ls (k:Int) out)
 |[],k,out,ch,_,_=>by rw[aV,fV,chg,Bool.or_false]
 |z::ls,k,out,ch,hd,ho=>by
  have hlen:=hn.len
  have hk:k<n.Legs.length:=by
   have:=congrArg List.length hd
   simp at this;omega
  have hz:n.Legs[k]?=some z:=by
   have:(n.Legs.drop k)[0]?=some z:=by rw[hd];rfl
   simpa using this
  have hd2:n.Legs.drop (k+1)=ls:=by
   have:=congrArg List.tail hd
   simpa using this
  have hm:=List.mem_of_getElem? hz
  obtain⟨ha,hbz⟩:=iK hm
  have pl:=dB n
  have e1:ix (plc n) z.From=(aI n z:Int):=fX ((dA n _).2 ⟨z,hm,.inl rfl⟩)
  have e2:ix (plc n) z.To=(bI n z:Int):=fX ((dA n _).2 ⟨z,hm,.inr rfl⟩)
  have hk1:(k:Int)+1=((k+1:Nat):Int):=by omega
  rw[aV,fV,chg]
  simp only[aZ,oq (show(plc n).length≤4194304 by omega),e1,e2,co,cw,Int.toNat_natCast,df,bG,gR,am]
  rw[ah (by omega),ar (bX (l:=best) (by omega)),w64 (n:=(k:Int)+1) (by omega) (by omega),hk1]
  have ih:=fun o c ho=>yk hn hf hl hb (st:=st) ls (k+1) o c hd2 ho
  by_cases h0:lab best (aI n z)<0
  ·have hv:via n f st best z (k:Int)=none:=by unfold via;rw[if_pos h0]
   rw[if_pos h0,hv]
   exact ih out ch ho
  ·rw[if_neg h0,ah (by omega)]
   have hx:=hb (aI n z)
   have hc:=hn.change
   have er:eD G.real TE.real n (lab best (aI n z)) (decide ((aI n z:Int)=(st:Int)))=rdy n (lab best (aI n z)) (decide (aI n z=st)):=by
    unfold eD rdy
    simp only[bG,am]
    rw[w64 (by omega) (by omega)]
    by_cases hs:aI n z=st
    ·rw[if_pos (by omega),if_pos (by simp[hs])]
    ·rw[if_neg (by omega),if_neg (by simp[hs])]
   rw[er,hf.call,ag]
   cases hfv:f (k:Int) (rdy n (lab best (aI n z)) (decide (aI n z=st))) with
   |none=>
    have hv:via n f st best z (k:Int)=none:=by unfold via;rw[if_neg h0,hfv];rfl
    rw[hv]
    exact ih out ch ho
   |some d=>
    have hv:via n f st best z (k:Int)=some (enN n (k:Int) d):=by unfold via;rw[if_neg h0,hfv];rfl
    rw[hv]
    obtain⟨r1,r2,r3,r4⟩:=ee (n:=n) (by omega) (hf.ok hfv).1
    simp only[tbO,fr]
    rw[ah (by omega),ar (bX (l:=out) (by omega)),zH hn r1 r2 r3 r4]
    simp only[ag]
    have ho2:(out.set (bI n z) (enN n (k:Int) d)).length=(plc n).length:=by simpa using ho
    by_cases h1:lab out (bI n z)<0
    ·have hbt:bh out (bI n z) (enN n (k:Int) d):=.inl h1
     rw[if_pos h1,ah (by omega),if_pos hbt,if_pos hbt,ih _ true ho2,Bool.true_or,Bool.or_true]
    ·rw[if_neg h1,ah (by omega)]
     by_cases h2:enN n (k:Int) d<lab out (bI n z)
     ·have hbt:bh out (bI n z) (enN n (k:Int) d):=.inr h2
      rw[if_pos h2,ah (by omega),if_pos hbt,if_pos hbt,ih _ true ho2,Bool.true_or,Bool.or_true]
     ·have hbt:¬bh out (bI n z) (enN n (k:Int) d):=by unfold bh;omega
      rw[if_neg h2,if_neg hbt,if_neg hbt]
      exact ih out ch ho
theorem yg {fd:Fd} {n:Network} {f:Int→Int→Option Int} (hn:NetOk n) (hf:Find fd n f) {st:Nat}:∀(m:Nat) (best:List Int),best.length=(plc n).length→(∀i,lab best i≤100000)→
 ca G.real TE.real n fd (plc n) (st:Int) m best=some (itr n f st m best)
 |0,best,_,_=>by rw[ca];rfl
 |m+1,best,hl,hb=>by
  have pl:=dB n
  have hlen:=hn.len
  have hok:FOk n f:=⟨hn,hf.ok⟩
  rw[ca]
  simp only[aZ,List.nil_append]
  rw[ah (by simp;omega),show(0:Int)=((0:Nat):Int) from rfl,yk hn hf hl hb n.Legs 0 best false (by simp) hl,ag,Bool.false_or]
  cases hc:chg n f st best n.Legs ((0:Nat):Int) best with
  |true=>
   rw[fr]
   exact yg hn hf m (rnd n f st best) (jS.trans hl) (tB hok hl hb)
  |false=>
   rw[oa]
   have e:rnd n f st best=best:=ml hc
   rw[show fV n f st best n.Legs ((0:Nat):Int) best=rnd n f st best from rfl,rl e,e]
theorem xR:∀(m:Nat) (w:List Int),w.length+m≤1000000→cj G.real TE.real m w=some (w++List.replicate m (-1))
 |0,w,_=>by rw[cj];simp
 |m+1,w,h=>by
  rw[cj]
  simp only[aZ]
  rw[ah (by simp;omega),xR m _ (by simp;omega),List.append_assoc]
  rfl
def eM (n:Network) (st:Nat) (a:Int):List Int:=(List.replicate (plc n).length (-1)).set st (max a 0)
theorem fH (n:Network) (st:Nat) (a:Int):(eM n st a).length=(plc n).length:=by unfold eM;simp
theorem sm {n:Network} {st:Nat} (hst:st<(plc n).length) (a:Int) (i:Nat):lab (eM n st a) i=if i=st then max a 0 else-1:=by
 unfold eM
 rw[nI (by simpa using hst)]
 by_cases h:st=i
 ·rw[if_pos h,if_pos h.symm]
 ·rw[if_neg h,if_neg (fun e=>h e.symm)]
  unfold lab
  rw[List.getD_eq_getElem?_getD,List.getElem?_replicate]
  split<;>rfl
theorem nH {n:Network} {st:Nat} (hst:st<(plc n).length) {a:Int} (ha:a≤100000) (i:Nat):lab (eM n st a) i≤100000:=by
 rw[sm hst];split<;>omega
def k7 (n:Network) (f:Int→Int→Option Int) (s:ByteArray) (a:Int) (m:Int):List Int:=
 if s∉plc n∨100000<a∨m<0 then[] else itr n f (ixN (plc n) s) m.toNat (eM n (ixN (plc n) s) a)
theorem s9 {fd:Fd} {n:Network} {f:Int→Int→Option Int} (hn:NetOk n) (hf:Find fd n f) (s:ByteArray) (a:Int) {m:Int} (hm:m≤9223372036854775807):
 gj G.real TE.real n fd s a m=some (k7 n f s a m):=by
 have pl:=dB n
 have hlen:=hn.len
 unfold gj k7
 rw[xy (by omega)]
 simp only[ag,aZ,oq (show(plc n).length≤4194304 by omega),df,am,gF,gH,co,cw]
 by_cases h1:s∈plc n
 ·have hi:=cz h1
  rw[fX h1,if_neg (by omega)]
  by_cases h2:100000<a
  ·rw[if_pos h2,if_pos (by simp[h2])]
  ·rw[if_neg h2]
   by_cases h3:m<0
   ·rw[if_pos h3,if_pos (by simp[h3])]
   ·rw[if_neg h3,if_neg (by simp[h1,h2,h3])]
    have cn:aS 0 ((plc n).length:Int)=(plc n).length:=by unfold aS;omega
    have cm:aS 0 m=m.toNat:=by unfold aS;omega
    rw[ah (by omega),cn,xR _ _ (by simp;omega),ag,List.nil_append,ah (by rw[List.length_replicate];omega),Int.toNat_natCast,ar (bX (by rw[List.length_replicate];exact hi.1)),ah hm,cm]
    have e:(List.replicate (plc n).length (-1)).set (ixN (plc n) s) (G.real.imax a 0)=eM n (ixN (plc n) s) a:=rfl
    rw[e,yg hn hf _ _ (fH _ _ _) (nH hi.1 (by omega)),ag]
 ·rw[if_pos (oC.2 h1),if_pos (.inl h1)]
theorem oQ (a:Int) (st:Nat):∀(ls:List ByteArray) (k:Nat) (w:List Int),k+ls.length≤4194304→w.length+ls.length≤4194304→bW G.real TE.real (st:Int) a ls (k:Int) w=some (w++(List.range' k ls.length).map fun i=>if i=st then max a 0 else-1)
 |[],k,w,_,_=>by rw[bW];simp
 |z::ls,k,w,h,h2=>by
  simp only[List.length_cons] at h h2
  have em:sP G.real TE.real a 0=max a 0:=by
   unfold sP
   simp only[df,am]
   split<;>omega
  rw[bW]
  simp only[gR,am,aZ,bG,em]
  rw[w64 (by omega) (by omega),show(k:Int)+1=((k+1:Nat):Int) from by omega,ah (by simp;omega),ah (by simp;omega),oQ a st ls (k+1) _ (by omega) (by simp;omega),oQ a st ls (k+1) _ (by omega) (by simp;omega),List.length_cons,List.range'_succ,List.map_cons]
  by_cases hk:k=st
  ·rw[if_pos (by omega),if_pos hk];simp
  ·rw[if_neg (by omega),if_neg hk];simp
theorem zu {n:Network} (hn:NetOk n) {st:Nat} (hst:st<(plc n).length) (a:Int):ie G.real TE.real (plc n) (st:Int) a=some (eM n st a):=by
 have pl:=dB n
 have hlen:=hn.len
 unfold ie
 rw[aZ,show(0:Int)=((0:Nat):Int) from rfl,oQ a st (plc n) 0 [] (by omega) (by simp;omega),ag,List.nil_append]
 congr 1
 refine ux (by rw[fH];simp) fun i=>?_
 rw[sm hst]
 unfold lab
 rw[List.getD_eq_getElem?_getD,List.getElem?_map]
 by_cases hi:i<(plc n).length
 ·rw[List.getElem?_range' hi];simp
 ·rw[List.getElem?_eq_none (by simp;omega)]
  simp only[Option.map_none,Option.getD_none]
  rw[if_neg (by omega)]
theorem sJ {n:Network} {f:Int→Int→Option Int} {s:ByteArray} {a m:Int} (h1:s∈plc n) (h2:a≤100000) (h3:0≤m):(k7 n f s a m).length=(plc n).length:=by
 unfold k7
 rw[if_neg (by simp[h1];omega),eW,fH]
end Go.Vs
namespace Go.Vs
open Go.IntWalk
theorem uy {l:List ByteArray} {x y:ByteArray} (hx:x∈l) (hy:y∈l) (h:ixN l x=ixN l y):x=y:=by
 have h1:=(cz hx).2
 have h2:=(cz hy).2
 rw[h,h2] at h1
 exact(Option.some.inj h1).symm
section
variable {n:Network} {f:Int→Int→Option Int} {st:Nat}
def dyv (n:Network) (f:Int→Int→Option Int) (st:Nat) (best:List Int) (z:Leg) (v:Int):Option Int:=
 if lab best (aI n z)<0 then none else f v (rdy n (lab best (aI n z)) (decide (aI n z=st)))
theorem uX (best:List Int) (z:Leg) (v:Int):via n f st best z v=(dyv n f st best z v).map (enN n v):=by
 unfold via dyv
 split<;>rfl
def stF (n:Network) (f:Int→Int→Option Int) (st:Nat) (best:List Int) (x:ByteArray) (e:Int):List Leg→Int→Option Trip
 |[],_=>none
 |z::ls,v=>if z.To=x then(match dyv n f st best z v with|some d=>if enN n v d=e then some ⟨v,d⟩ else stF n f st best x e ls (v+1)|none=>stF n f st best x e ls (v+1)) else stF n f st best x e ls (v+1)
theorem uY {best:List Int} {x:ByteArray} {e:Int}:∀(ls:List Leg) (k:Nat),n.Legs.drop k=ls→(∃(j:Nat) (z:Leg),k≤j∧n.Legs[j]?=some z∧z.To=x∧via n f st best z (j:Int)=some e)→
 ∃t,stF n f st best x e ls (k:Int)=some t
 |[],k,hd,h=>by
  obtain⟨j,z,h1,h2,_⟩:=h
  have:=List.drop_eq_nil_iff.1 hd
  rw[List.getElem?_eq_none (by omega)] at h2
  cases h2
 |z::ls,k,hd,h=>by
  have hz:n.Legs[k]?=some z:=by
   have:(n.Legs.drop k)[0]?=some z:=by rw[hd];rfl
   simpa using this
  have hd2:n.Legs.drop (k+1)=ls:=by
   have:=congrArg List.tail hd
   simpa using this
  have hk1:(k:Int)+1=((k+1:Nat):Int):=by omega
  obtain⟨j,y,h1,h2,h3,h4⟩:=h
  have ih:=fun hj=>uY (best:=best) (x:=x) (e:=e) ls (k+1) hd2 ⟨j,y,hj,h2,h3,h4⟩
  rw[stF,hk1]
  by_cases hj:j=k
  ·subst hj
   rw[hz] at h2
   cases h2
   rw[if_pos h3]
   rw[uX] at h4
   cases hdv:dyv n f st best z (j:Int) with
   |none=>rw[hdv] at h4;cases h4
   |some d=>
    rw[hdv] at h4
    have h5:enN n (j:Int) d=e:=Option.some.inj h4
    exact⟨⟨(j:Int),d⟩,if_pos h5⟩
  ·have ih:=ih (by omega)
   split
   ·split
    ·split
     ·exact⟨_,rfl⟩
     ·exact ih
    ·exact ih
   ·exact ih
theorem ot {best:List Int} {x:ByteArray} {e:Int}:∀(ls:List Leg) (k:Nat) {t:Trip},n.Legs.drop k=ls→stF n f st best x e ls (k:Int)=some t→
 ∃(j:Nat) (z:Leg),n.Legs[j]?=some z∧z.To=x∧t.Leg=(j:Int)∧via n f st best z (j:Int)=some e
 |[],k,t,hd,h=>by rw[stF] at h;cases h
 |z::ls,k,t,hd,h=>by
  have hz:n.Legs[k]?=some z:=by
   have:(n.Legs.drop k)[0]?=some z:=by rw[hd];rfl
   simpa using this
  have hd2:n.Legs.drop (k+1)=ls:=by
   have:=congrArg List.tail hd
   simpa using this
  have hk1:(k:Int)+1=((k+1:Nat):Int):=by omega
  have ih:=ot (best:=best) (x:=x) (e:=e) ls (k+1) (t:=t) hd2
  rw[stF,hk1] at h
  split at h
  ·rename_i h1
   split at h
   ·rename_i d hdv
    split at h
    ·rename_i h2
     cases h
     exact⟨k,z,hz,h1,rfl,by rw[uX,hdv];exact congrArg some h2⟩
    ·exact ih h
   ·exact ih h
  ·exact ih h
def chF (n:Network) (f:Int→Int→Option Int) (st:Nat) (b0:List Int):Nat→ByteArray→Int→List Trip→Option (List Trip)
 |0,_,_,acc=>some acc
 |k+1,x,e,acc=>match stF n f st (itr n f st k b0) x e n.Legs 0 with
  |some t=>chF n f st b0 k (dW n t.Leg).From (lab (itr n f st k b0) (ixN (plc n) (dW n t.Leg).From)) (t::acc)
  |none=>none
theorem zr (h:FOk n f) {best:List Int} (hl:best.length=(plc n).length) {x:ByteArray} (hx:x∈plc n) (hc:lab (rnd n f st best) (ixN (plc n) x)≠lab best (ixN (plc n) x)):
 ∃t,stF n f st best x (lab (rnd n f st best) (ixN (plc n) x)) n.Legs 0=some t∧0≤t.Leg∧t.Leg<n.Legs.length∧(∀b,b.length=(plc n).length→best=rnd n f st b→lab (rnd n f st b) (ixN (plc n) (dW n t.Leg).From)≠lab b (ixN (plc n) (dW n t.Leg).From)):=by
 rcases(iP (st:=st) h hl (ixN (plc n) x)).1 with e|⟨j,z,e,g1,g2,g3,g4,g5⟩
 ·exact absurd e hc
 ·have hm:=List.mem_of_getElem? g1
  have hto:z.To=x:=uy ((dA n _).2 ⟨z,hm,.inr rfl⟩) hx g2
  obtain⟨t,ht⟩:=uY (n:=n) (f:=f) (st:=st) (best:=best) (x:=x) (e:=e) n.Legs 0 (by simp) ⟨j,z,by omega,g1,hto,g3⟩
  obtain⟨j2,z2,q1,q2,q3,q4⟩:=ot (n:=n) (f:=f) (st:=st) n.Legs 0 (by simp) ht
  have hj:j2<n.Legs.length:=by
   rcases Nat.lt_or_ge j2 n.Legs.length with hh|hh
   ·exact hh
   ·rw[List.getElem?_eq_none hh] at q1;cases q1
  have hz2:dW n t.Leg=z2:=by
   have:=eX (n:=n) (l:=t.Leg) (by omega) (by omega)
   rw[q3,Int.toNat_natCast,q1] at this
   rw[q3]
   exact(Option.some.inj this).symm
  refine⟨t,by rw[g4];exact ht,by omega,by omega,fun b hb hbe he=>?_⟩
  rw[hz2] at he
  have v2:via n f st b z2 (j2:Int)=some e:=by
   rw[←qb (b1:=best) (b2:=b) (by rw[hbe];exact he)];exact q4
  refine(iP (st:=st) h hb (ixN (plc n) x)).2 j2 z2 e q1 (by unfold bI;rw[q2]) v2 ?_
  rw[←hbe]
  exact g5
theorem tz (h:FOk n f) {b0:List Int} (hl:b0.length=(plc n).length):∀(k:Nat) {x:ByteArray} (acc:List Trip),x∈plc n→(∀j,k=j+1→lab (itr n f st (j+1) b0) (ixN (plc n) x)≠lab (itr n f st j b0) (ixN (plc n) x))→
 ∃r,chF n f st b0 k x (lab (itr n f st k b0) (ixN (plc n) x)) acc=some r∧r.length=acc.length+k
 |0,x,acc,_,_=>⟨acc,rfl,rfl⟩
 |k+1,x,acc,hx,hc=>by
  have hc:=hc k rfl
  rw[fD] at hc ⊢
  obtain⟨t,t1,t2,t3,t4⟩:=zr h ((eW k _).trans hl) hx hc
  have hm:=kQ t2 t3
  obtain⟨r,r1,r2⟩:=tz h hl k (x:=(dW n t.Leg).From) (t::acc) ((dA n _).2 ⟨_,hm,.inl rfl⟩) (fun j hj=>by
   subst hj
   have:=t4 (itr n f st j b0) ((eW j _).trans hl) (fD j b0)
   rw[fD];exact this)
  refine⟨r,?_,by rw[r2];simp;omega⟩
  rw[chF,t1]
  exact r1
end
theorem xE {fd:Fd} {n:Network} {f:Int→Int→Option Int} (hn:NetOk n) (hf:Find fd n f) {best:List Int} (hl:best.length=(plc n).length) (hb:∀i,lab best i≤100000) {s x:ByteArray} (hs:s∈plc n) (hx:x∈plc n) (e:Int):∀(ls:List Leg) (k:Nat),n.Legs.drop k=ls→
 bv G.real TE.real n fd (plc n) best s ((ixN (plc n) x:Nat):Int) e ls (k:Int)=some (match stF n f (ixN (plc n) s) best x e ls (k:Int) with|some t=>.ret (t,true)|none=>.out ())
 |[],k,_=>by rw[bv,stF]
 |z::ls,k,hd=>by
  have hlen:=hn.len
  have hk:k<n.Legs.length:=by
   have:=congrArg List.length hd
   simp at this;omega
  have hz:n.Legs[k]?=some z:=by
   have:(n.Legs.drop k)[0]?=some z:=by rw[hd];rfl
   simpa using this
  have hd2:n.Legs.drop (k+1)=ls:=by
   have:=congrArg List.tail hd
   simpa using this
  have hm:=List.mem_of_getElem? hz
  obtain⟨ha,hbz⟩:=iK hm
  have pl:=dB n
  have hfm:z.From∈plc n:=(dA n _).2 ⟨z,hm,.inl rfl⟩
  have e1:ix (plc n) z.From=(aI n z:Int):=fX hfm
  have hk1:(k:Int)+1=((k+1:Nat):Int):=by omega
  rw[bv,stF]
  simp only[aZ,oq (show(plc n).length≤4194304 by omega),e1,cw,Int.toNat_natCast,df,bG,gR,kW,am]
  rw[ah (by omega),ar (cz hx).2,w64 (n:=(k:Int)+1) (by omega) (by omega),hk1,xE hn hf hl hb hs hx e ls (k+1) hd2]
  by_cases h0:z.To=x
  ·rw[if_pos h0,if_pos h0,ah (by omega),ar (bX (l:=best) (by omega))]
   unfold dyv
   by_cases h1:lab best (aI n z)<0
   ·rw[if_pos h1,if_pos h1]
   ·rw[if_neg h1,if_neg h1,ah (by omega)]
    have hxx:=hb (aI n z)
    have hc:=hn.change
    have er:eD G.real TE.real n (lab best (aI n z)) (decide (z.From=s))=rdy n (lab best (aI n z)) (decide (aI n z=ixN (plc n) s)):=by
     unfold eD rdy
     simp only[bG,am]
     rw[w64 (by omega) (by omega)]
     by_cases hss:z.From=s
     ·rw[if_pos hss,if_pos (by simp[aI,hss])]
     ·rw[if_neg hss,if_neg (by simp only[decide_eq_true_eq];exact fun h=>hss (uy hfm hs h))]
    rw[er,hf.call,ag]
    cases hfv:f (k:Int) (rdy n (lab best (aI n z)) (decide (aI n z=ixN (plc n) s))) with
    |none=>rfl
    |some d=>
     obtain⟨r1,r2,r3,r4⟩:=ee (n:=n) (by omega) (hf.ok hfv).1
     simp only[tbO,fr]
     rw[zH hn r1 r2 r3 r4,ag]
     by_cases h2:enN n (k:Int) d=e
     ·rw[if_pos h2,if_pos h2]
     ·rw[if_neg h2,if_neg h2]
  ·rw[if_neg h0,if_neg h0]
end Go.Vs
namespace Go.Vs
open Go.IntWalk
theorem uI (Q:Nat→Prop):∀(m:Nat),Q m→∃y,y≤m∧Q y∧∀u,u<y→¬Q u
 |0,h=>⟨0,Nat.le_refl _,h,fun u hu=>absurd hu (Nat.not_lt_zero u)⟩
 |m+1,h=>by
  rcases Classical.em (∃u,u<m+1∧Q u) with⟨u,h1,h2⟩|h3
  ·rcases Nat.lt_or_ge u m with hu|hu
   ·obtain⟨y,y1,y2,y3⟩:=uI (fun k=>k≤m∧Q k∨k=m) m (.inr rfl)
    rcases Classical.em (∃u,u≤m∧Q u) with h4|h4
    ·obtain⟨u,g1,g2⟩:=h4
     rcases y2 with⟨_,y2⟩|y2
     ·exact⟨y,by omega,y2,fun v hv hq=>y3 v hv (.inl ⟨by omega,hq⟩)⟩
     ·subst y2
      rcases Nat.lt_or_ge u y with hh|hh
      ·exact absurd (.inl ⟨g1,g2⟩) (y3 u hh)
      ·obtain rfl:u=y:=by omega
       exact⟨u,by omega,g2,fun v hv hq=>y3 v hv (.inl ⟨by omega,hq⟩)⟩
    ·exact absurd ⟨u,by omega,h2⟩ h4
   ·obtain rfl:u=m:=by omega
    obtain⟨y,y1,y2,y3⟩:=uI Q u h2
    exact⟨y,by omega,y2,y3⟩
  ·exact⟨m+1,Nat.le_refl _,h,fun u hu hq=>h3 ⟨u,hu,hq⟩⟩
theorem uo {n:Network} {f:Int→Int→Option Int} {s:ByteArray} {a m:Int} (h1:s∈plc n) (h2:a≤100000) (h3:0≤m):k7 n f s a m=itr n f (ixN (plc n) s) m.toNat (eM n (ixN (plc n) s) a):=by
 unfold k7
 rw[if_neg (by simp[h1];omega)]
theorem wl1 {fd:Fd} {n:Network} {f:Int→Int→Option Int} (hn:NetOk n) (hf:Find fd n f) {s:ByteArray} {a:Int} (hs:s∈plc n) (ha:a≤100000) {x2:Int} (hx:0≤x2):∀(m k:Nat),k+m≤1000→
 bz G.real TE.real n fd s a x2 m (k:Int) ((List.range k).map fun j=>itr n f (ixN (plc n) s) j (eM n (ixN (plc n) s) a))=some (.out ((List.range (k+m)).map fun j=>itr n f (ixN (plc n) s) j (eM n (ixN (plc n) s) a)))
 |0,k,_=>by rw[bz];rfl
 |m+1,k,h=>by
  have hi:=(cz hs).1
  rw[bz,s9 hn hf s a (by omega),uo hs ha (by omega),ag]
  simp only[gR,df,gH,co,am,aZ,bG,Int.toNat_natCast]
  rw[eW,fH,if_neg (by omega),if_neg (by omega),w64 (by omega) (by omega),ah (by simp;omega),show(k:Int)+1=((k+1:Nat):Int) from by omega]
  have:=wl1 hn hf hs ha hx m (k+1) (by omega)
  rw[List.range_succ,List.map_append,List.map_cons,List.map_nil] at this
  rw[this,show k+1+m=k+(m+1) by omega]
theorem wl2 {R:Nat→List Int} {P p:Nat} {x5:Int} (hP:P≤1000) (hp:∀m,p<(R m).length):∀(d fuel v:Nat),d<fuel→v+d≤P→(∀u,v≤u→u<v+d→lab (R u) p≠x5)→lab (R (v+d)) p=x5→
 dF G.real TE.real (p:Int) x5 ((List.range (P+1)).map R) fuel (v:Int)=some ((v+d:Nat):Int)
 |d,0,v,h,_,_,_=>absurd h (Nat.not_lt_zero d)
 |d,fuel+1,v,h,h1,h2,h3=>by
  have g:((List.range (P+1)).map R)[v]?=some (R v):=by
   rw[List.getElem?_map,List.getElem?_range (by omega)];rfl
  have hp1:=hp v
  rw[dF]
  simp only[cw,Int.toNat_natCast,kG,co,gR,am,bG]
  rw[ar g,ah (by simp;omega),ah (by omega),ar (bX hp1)]
  cases d with
  |zero=>rw[if_pos (show lab (R v) p=x5 from h3)];rfl
  |succ d=>
   rw[if_neg (h2 v (by omega) (by omega)),w64 (by omega) (by omega),show(v:Int)+1=((v+1:Nat):Int) from by omega,wl2 hP hp d fuel (v+1) (by omega) (by omega) (fun u g1 g2=>h2 u (by omega) (by omega)) (by rw[show v+1+d=v+(d+1) by omega];exact h3),show v+1+d=v+(d+1) by omega]
theorem uv {n:Network} {f:Int→Int→Option Int} {st:Nat} {best:List Int} {x:ByteArray} {e:Int} {t:Trip} (h:stF n f st best x e n.Legs 0=some t):0≤t.Leg∧t.Leg<n.Legs.length:=by
 obtain⟨j,z,q1,q2,q3,q4⟩:=ot (n:=n) (f:=f) (st:=st) n.Legs 0 (by simp) h
 have hj:j<n.Legs.length:=by
  rcases Nat.lt_or_ge j n.Legs.length with hh|hh
  ·exact hh
  ·rw[List.getElem?_eq_none hh] at q1;cases q1
 omega
theorem wl3 {fd:Fd} {n:Network} {f:Int→Int→Option Int} (hn:NetOk n) (hf:Find fd n f) {s:ByteArray} (hs:s∈plc n) {b0:List Int} (hl:b0.length=(plc n).length) (hb:∀i,lab b0 i≤100000) {P:Nat} (hP:P≤1000):∀(k fuel:Nat) (x:ByteArray) (e:Int) (acc r:List Trip),k<fuel→k≤P→x∈plc n→acc.length+k≤1000→chF n f (ixN (plc n) s) b0 k x e acc.reverse=some r→
 dj G.real TE.real n fd s (plc n) ((List.range (P+1)).map fun j=>itr n f (ixN (plc n) s) j b0) fuel ((ixN (plc n) x:Nat):Int) e (k:Int) acc=some (.out r.reverse)
 |k,0,x,e,acc,r,h,_,_,_,_=>absurd h (Nat.not_lt_zero k)
 |0,fuel+1,x,e,acc,r,h,h1,hx,h2,hc=>by
  rw[chF] at hc
  cases hc
  rw[dj]
  simp only[df,am]
  rw[if_neg (by omega),List.reverse_reverse]
 |k+1,fuel+1,x,e,acc,r,h,h1,hx,h2,hc=>by
  have hok:FOk n f:=⟨hn,hf.ok⟩
  have pl:=dB n
  have hlen:=hn.len
  have g:((List.range (P+1)).map fun j=>itr n f (ixN (plc n) s) j b0)[k]?=some (itr n f (ixN (plc n) s) k b0):=by
   rw[List.getElem?_map,List.getElem?_range (by omega)];rfl
  rw[chF] at hc
  rw[dj]
  have hwr:G.real.wrap .i64 (G.real.sub ((k+1:Nat):Int) 1)=(k:Int):=by rw[ir,w64 (by omega) (by omega)];omega
  simp only[df,am,hwr,cw,Int.toNat_natCast]
  rw[if_pos (by omega),ar g,ah (by simp;omega)]
  unfold jU
  have hl2:=(eW (n:=n) (f:=f) (st:=ixN (plc n) s) k b0).trans hl
  have hb2:=tV (st:=ixN (plc n) s) hok k hl hb
  rw[show(0:Int)=((0:Nat):Int) from rfl,xE hn hf hl2 hb2 hs hx e n.Legs 0 (by simp),ag]
  cases ht:stF n f (ixN (plc n) s) (itr n f (ixN (plc n) s) k b0) x e n.Legs ((0:Nat):Int) with
  |none=>rw[show((0:Nat):Int)=0 from rfl] at ht;rw[ht] at hc;cases hc
  |some t=>
   rw[show((0:Nat):Int)=0 from rfl] at ht
   rw[ht] at hc
   obtain⟨t2,t3⟩:=uv ht
   have hfm:(dW n t.Leg).From∈plc n:=(dA n _).2 ⟨_,kQ t2 t3,.inl rfl⟩
   have hi:=(cz hfm).1
   simp only[yc,aZ,ag,fr]
   rw[ah (by simp;omega),ah (by omega),ar (eX t2 t3)]
   simp only[oq (show(plc n).length≤4194304 by omega),fX hfm,co]
   rw[ah (by simp;omega),ah (by omega),Int.toNat_natCast,ar (bX (by omega))]
   refine wl3 hn hf hs hl hb hP k fuel _ _ _ r (by omega) (by omega) hfm (by simp;omega) ?_
   rw[List.reverse_append]
   exact hc
theorem wl4 (y:List Trip) (hy:y.length≤2000):∀(k fuel:Nat) (acc:List Trip),k<fuel→k≤y.length→acc.length+k≤2000→
 dn G.real TE.real y fuel acc ((k:Int)-1)=some (acc++(y.take k).reverse)
 |k,0,acc,h,_,_=>absurd h (Nat.not_lt_zero k)
 |0,fuel+1,acc,h,h1,h2=>by
  rw[dn]
  simp only[nt,am]
  rw[if_neg (by omega)];simp
 |k+1,fuel+1,acc,h,h1,h2=>by
  rw[dn]
  simp only[nt,am,cw,ir,aZ,kD]
  rw[show((k+1:Nat):Int)-1=(k:Int) from by omega,if_pos (by omega),ah (by omega),Int.toNat_natCast,ar (List.getElem?_eq_getElem (show k<y.length by omega)),ah (by simp;omega),w64 (by omega) (by omega),wl4 y hy k fuel _ (by omega) (by omega) (by simp;omega)]
  congr 1
  rw[List.take_add_one,List.getElem?_eq_getElem (show k<y.length by omega),List.reverse_append]
  simp
end Go.Vs
namespace Go.Vs
open Go.IntWalk
theorem vp {n:Network} (ht:n.tot≤1048576) (hb:jx n=true) {f:Int→Int→Option Int} (hok:FOk n f) (s p:ByteArray) (a:Int):
 ∃r,r.1.length≤40∧∀fd,Find fd n f→gJ G.real TE.real n fd s p a=some r:=by
 have pl:=dB n
 have hn:=rt ht hb
 have hlen:=hn.len
 have start:∀fd,gJ G.real TE.real n fd s p a=(cl (bz G.real TE.real n fd s a (ix (plc n) p) ((plc n).length+1) 0 []) fun o1=>lr o1 fun y1=>
  gt y1 (plc n).length fun x4=>gd ((0:Int)≤((plc n).length:Int)∧((plc n).length:Int)<(y1.length:Int))<|gd ((0:Int)≤ix (plc n) p∧ix (plc n) p<(x4.length:Int))<|gt x4 (ix (plc n) p).toNat fun x5=>
  if x5<0 then some ([],false) else cl (dF G.real TE.real (ix (plc n) p) x5 y1 1000000000 0) fun y2=>cl (dj G.real TE.real n fd s (plc n) y1 1000000000 (ix (plc n) p) x5 y2 []) fun o3=>lr o3 fun y3=>
  cl (dn G.real TE.real y3 1000000000 [] (G.real.wrap .i64 ((y3.length:Int)-1))) fun y4=>some (y4,true)):=fun fd=>by
  unfold gJ
  rw[xy (by omega)]
  simp only[ag,aZ,gH,gF,kD,oq (show(plc n).length≤4194304 by omega),df,cw,co,am,ir,kG]
  rw[ah (c:=((plc n).length:Int)≤4611686018427387904) (by omega),show ci 0 ((plc n).length:Int)=(plc n).length+1 from by unfold ci;omega]
  rfl
 by_cases h1:s∈plc n∧a≤100000
 ·by_cases h2:p∈plc n
  ·have hi:=cz h1.1
   have hj:=cz h2
   have hll:=fH n (ixN (plc n) s) a
   have hlb:=nH (n:=n) hi.1 h1.2
   have g:((List.range ((plc n).length+1)).map fun j=>itr n f (ixN (plc n) s) j (eM n (ixN (plc n) s) a))[(plc n).length]?=some (itr n f (ixN (plc n) s) (plc n).length (eM n (ixN (plc n) s) a)):=by
    rw[List.getElem?_map,List.getElem?_range (by omega)];rfl
   have hp:∀m,ixN (plc n) p<(itr n f (ixN (plc n) s) m (eM n (ixN (plc n) s) a)).length:=fun m=>by rw[eW,hll];exact hj.1
   have hpP:=hp (plc n).length
   have first:∀fd,Find fd n f→bz G.real TE.real n fd s a (ix (plc n) p) ((plc n).length+1) 0 []=some (.out ((List.range ((plc n).length+1)).map fun j=>itr n f (ixN (plc n) s) j (eM n (ixN (plc n) s) a))):=fun fd hf=>by
    have hW:=wl1 hn hf (a:=a) h1.1 h1.2 (x2:=ix (plc n) p) (by rw[fX h2];omega) ((plc n).length+1) 0 (by omega)
    rw[Nat.zero_add] at hW
    exact hW
   by_cases h3:lab (itr n f (ixN (plc n) s) (plc n).length (eM n (ixN (plc n) s) a)) (ixN (plc n) p)<0
   ·refine⟨([],false),by simp,fun fd hf=>?_⟩
    rw[start,first fd hf,ag,iI,ar g,ah (by simp;omega),fX h2,ah (by omega),Int.toNat_natCast,ar (bX hpP),if_pos h3]
   ·obtain⟨y,y1,y2,y3⟩:=uI (fun m=>lab (itr n f (ixN (plc n) s) m (eM n (ixN (plc n) s) a)) (ixN (plc n) p)=lab (itr n f (ixN (plc n) s) (plc n).length (eM n (ixN (plc n) s) a)) (ixN (plc n) p)) (plc n).length rfl
    have q1:=wl2 (R:=fun m=>itr n f (ixN (plc n) s) m (eM n (ixN (plc n) s) a)) (P:=(plc n).length) (p:=ixN (plc n) p) (by omega) hp y 1000000000 0 (by omega) (by omega) (fun u _ hu=>y3 u (by omega)) (by rw[Nat.zero_add];exact y2)
    rw[Nat.zero_add] at q1
    obtain⟨r,r1,r2⟩:=tz hok hll y (x:=p) [] h2 (fun j hj=>by
     subst hj
     intro he
     exact y3 j (by omega) (he.symm.trans y2))
    rw[y2] at r1
    simp only[List.length_nil,Nat.zero_add] at r2
    refine⟨(r,true),by simp;omega,fun fd hf=>?_⟩
    have q4:=wl3 hn hf h1.1 hll hlb (P:=(plc n).length) (by omega) y 1000000000 p _ [] r (by omega) (by omega) h2 (by simp;omega) r1
    rw[start,first fd hf,ag,iI,ar g,ah (by simp;omega),fX h2,ah (by omega),Int.toNat_natCast,ar (bX hpP),if_neg h3]
    rw[show(0:Int)=((0:Nat):Int) from rfl,q1]
    simp only[ag]
    rw[q4]
    simp only[ag,iI,List.length_reverse]
    have q5:=wl4 r.reverse (by simp;omega) r.length 1000000000 [] (by omega) (by simp) (by simp;omega)
    rw[w64 (by omega) (by omega),q5,List.take_of_length_le (by simp),List.reverse_reverse,List.nil_append]
    rfl
  ·refine⟨([],false),by simp,fun fd hf=>?_⟩
   have hla:=sJ (n:=n) (f:=f) (m:=0) h1.1 h1.2 (by omega)
   have hi:=(cz h1.1).1
   rw[start,bz,s9 hn hf s a (by omega),ag]
   simp only[gR,df,gH,co,am]
   rw[hla,if_neg (by omega),if_pos (oC.2 h2)];rfl
 ·refine⟨([],false),by simp,fun fd hf=>?_⟩
  have e:∀m:Int,k7 n f s a m=[]:=fun m=>by
   unfold k7
   rw[if_pos]
   by_cases h2:s∈plc n
   ·right;left
    have:¬a≤100000:=fun h=>h1 ⟨h2,h⟩
    omega
   ·exact .inl h2
  rw[start,bz,s9 hn hf s a (by omega),ag,e]
  rfl
end Go.Vs
