/- Part of the proofs of this seat's laws: Ways. No condition. -/
import Derived.Test.YticpmdigfdpmfaaGreatNet
import Derived.Test.YticpmdigfdpmfaaGreatLac
import Derived.Test.YticpmdigfdpmfaaGreatLad
import Derived.Test.YticpmdigfdpmfaaGreatLaa
import Derived.Test.YticpmdigfdpmfaaGreatLab
import Derived.Test.YticpmdigfdpmfaaGreatLae
set_option linter.unusedVariables false
set_option linter.unusedSimpArgs false
set_option linter.unusedSectionVars false
namespace Go.Vs
open Go.IntWalk
def lab (l:List Int) (i:Nat):Int:=l.getD i (-1)
theorem cU {l:List Int} {i:Nat} (h:i<l.length):l[i]?=some (lab l i):=by
 unfold lab
 rw[List.getD_eq_getElem?_getD,List.getElem?_eq_getElem h];rfl
theorem pd {l:List Int} {i j:Nat} {x:Int} (h:i<l.length):lab (l.set i x) j=if i=j then x else lab l j:=by
 unfold lab
 rw[List.getD_eq_getElem?_getD,List.getD_eq_getElem?_getD,List.getElem?_set]
 by_cases e:i=j
 ·subst e;simp[h]
 ·simp[e]
def aI (n:Network) (z:Leg):Nat:=ixN (plc n) z.From
def bI (n:Network) (z:Leg):Nat:=ixN (plc n) z.To
def rdy (n:Network) (x:Int) (first:Bool):Int:=if first=true then x else x+n.Change
def via (n:Network) (f:Int→Int→Option Int) (st:Nat) (best:List Int) (z:Leg) (v:Int):Option Int:=
 if lab best (aI n z)<0 then none else(f v (rdy n (lab best (aI n z)) (decide (aI n z=st)))).map (enN n v)
def bq (out:List Int) (b:Nat) (e:Int):Prop:=lab out b<0∨e<lab out b
instance (out:List Int) (b:Nat) (e:Int):Decidable (bq out b e):=inferInstanceAs (Decidable (_∨_))
def gJ (n:Network) (f:Int→Int→Option Int) (st:Nat) (best:List Int):List Leg→Int→List Int→List Int
 |[],_,out=>out
 |z::ls,v,out=>match via n f st best z v with
  |none=>gJ n f st best ls (v+1) out
  |some e=>if bq out (bI n z) e then gJ n f st best ls (v+1) (out.set (bI n z) e) else gJ n f st best ls (v+1) out
def chg (n:Network) (f:Int→Int→Option Int) (st:Nat) (best:List Int):List Leg→Int→List Int→Bool
 |[],_,_=>false
 |z::ls,v,out=>match via n f st best z v with
  |none=>chg n f st best ls (v+1) out
  |some e=>if bq out (bI n z) e then true else chg n f st best ls (v+1) out
theorem nO {n:Network} {f:Int→Int→Option Int} {st:Nat} {best:List Int}:∀{ls:List Leg} {v:Int} {out:List Int},chg n f st best ls v out=false→gJ n f st best ls v out=out
 |[],_,_,_=>rfl
 |z::ls,v,out,h=>by
  unfold chg at h
  unfold gJ
  split at h
  ·exact nO h
  ·split at h
   ·cases h
   ·rename_i hb;simp only[if_neg hb];exact nO h
def rnd (n:Network) (f:Int→Int→Option Int) (st:Nat) (best:List Int):List Int:=gJ n f st best n.Legs 0 best
def itr (n:Network) (f:Int→Int→Option Int) (st:Nat):Nat→List Int→List Int
 |0,best=>best
 |m+1,best=>itr n f st m (rnd n f st best)
theorem s7 {n:Network} {f:Int→Int→Option Int} {st:Nat} {best:List Int} (h:rnd n f st best=best):∀m,itr n f st m best=best
 |0=>rfl
 |m+1=>by rw[itr,h,s7 h m]
theorem pg {n:Network} {f:Int→Int→Option Int} {st:Nat}:∀(a b:Nat) (best:List Int),itr n f st (a+b) best=itr n f st b (itr n f st a best)
 |0,b,best=>by rw[Nat.zero_add];rfl
 |a+1,b,best=>by rw[show a+1+b=(a+b)+1 by omega,itr,itr,pg a b]
theorem gz {n:Network} {f:Int→Int→Option Int} {st:Nat} (m:Nat) (best:List Int):itr n f st (m+1) best=rnd n f st (itr n f st m best):=pg m 1 best
theorem kN {n:Network} {f:Int→Int→Option Int} {st:Nat} {best:List Int}:∀(ls:List Leg) (v:Int) (out:List Int),(gJ n f st best ls v out).length=out.length
 |[],_,_=>rfl
 |z::ls,v,out=>by
  unfold gJ
  split
  ·exact kN ls _ _
  ·split
   ·rw[kN ls];simp
   ·exact kN ls _ _
theorem ff {n:Network} {f:Int→Int→Option Int} {st:Nat}:∀(m:Nat) (best:List Int),(itr n f st m best).length=best.length
 |0,_=>rfl
 |m+1,best=>by rw[itr,ff m,rnd,kN]
theorem tZ {n:Network} {f:Int→Int→Option Int} {st:Nat} {best:List Int} (hb:∀z∈n.Legs,bI n z<best.length) (he:∀z v e,via n f st best z v=some e→0≤e):∀(ls:List Leg) (k:Nat) (out:List Int),n.Legs.drop k=ls→out.length=best.length→∀i,
 (lab (gJ n f st best ls (k:Int) out) i=lab out i∨∃j z e,n.Legs[j]?=some z∧k≤j∧bI n z=i∧via n f st best z (j:Int)=some e∧lab (gJ n f st best ls (k:Int) out) i=e∧bq out i e)∧
 (∀j z e,n.Legs[j]?=some z→k≤j→bI n z=i→via n f st best z (j:Int)=some e→¬bq (gJ n f st best ls (k:Int) out) i e)
 |[],k,out,hd,hl,i=>by
  refine⟨.inl rfl,fun j z e h1 h2 _ _=>?_⟩
  have:=List.drop_eq_nil_iff.1 hd
  rw[List.getElem?_eq_none (by omega)] at h1
  cases h1
 |z::ls,k,out,hd,hl,i=>by
  have hk:k<n.Legs.length:=by
   have:=congrArg List.length hd
   simp at this;omega
  have hz:n.Legs[k]?=some z:=by
   have:(n.Legs.drop k)[0]?=some z:=by rw[hd];rfl
   simpa using this
  have hd2:n.Legs.drop (k+1)=ls:=by
   have:=congrArg List.tail hd
   simpa using this
  have hbz:=hb z (List.mem_of_getElem? hz)
  have hk1:(k:Int)+1=((k+1:Nat):Int):=by omega
  have other:∀(o:List Int),o.length=best.length→(∀e,via n f st best z (k:Int)=some e→bI n z=i→¬bq o i e)→(∀e,bq o i e→bq out i e)→(lab o i=lab out i∨∃e,bI n z=i∧via n f st best z (k:Int)=some e∧lab o i=e∧bq out i e)→
   (lab (gJ n f st best ls ((k+1:Nat):Int) o) i=lab out i∨∃j z e,n.Legs[j]?=some z∧k≤j∧bI n z=i∧via n f st best z (j:Int)=some e∧lab (gJ n f st best ls ((k+1:Nat):Int) o) i=e∧bq out i e)∧
   (∀j z e,n.Legs[j]?=some z→k≤j→bI n z=i→via n f st best z (j:Int)=some e→¬bq (gJ n f st best ls ((k+1:Nat):Int) o) i e):=by
   intro o ho h1 h2 h3
   obtain⟨a1,a2⟩:=tZ hb he ls (k+1) o hd2 ho i
   refine⟨?_,fun j z' e g1 g2 g3 g4=>?_⟩
   ·rcases a1 with a1|⟨j,z',e,g1,g2,g3,g4,g5,g6⟩
    ·rw[a1]
     rcases h3 with h3|⟨e,h3,h4,h5,h6⟩
     ·exact .inl h3
     ·exact .inr ⟨k,z,e,hz,Nat.le_refl _,h3,h4,h5,h6⟩
    ·exact .inr ⟨j,z',e,g1,by omega,g3,g4,g5,h2 e g6⟩
   ·by_cases hj:j=k
    ·subst hj
     rw[hz] at g1
     cases g1
     have hnb:=h1 e g4 g3
     have h0:=he _ _ _ g4
     rcases a1 with a1|⟨j,z',e',q1,q2,q3,q4,q5,q6⟩
     ·unfold bq at hnb ⊢;rw[a1];exact hnb
     ·have h0':=he _ _ _ q4
      unfold bq at hnb q6 ⊢
      rw[q5];omega
    ·exact a2 j z' e g1 (by omega) g3 g4
  unfold gJ
  split
  ·rename_i hv
   rw[hk1]
   exact other out hl (fun e h=>by rw[hv] at h;cases h) (fun _ h=>h) (.inl rfl)
  ·rename_i e hv
   have h0:=he _ _ _ hv
   rw[hk1]
   split
   ·rename_i hbt
    refine other (out.set (bI n z) e) (by simpa using hl) (fun e' h1 h2=>?_) (fun e' h=>?_) ?_
    ·rw[hv] at h1;cases h1
     unfold bq
     rw[pd (by omega),if_pos h2];omega
    ·unfold bq at h ⊢
     rw[pd (by omega)] at h
     split at h
     ·rename_i hbi
      subst hbi
      unfold bq at hbt
      omega
     ·exact h
    ·rw[pd (by omega)]
     by_cases hbi:bI n z=i
     ·rw[if_pos hbi];subst hbi;exact .inr ⟨e,rfl,hv,rfl,hbt⟩
     ·rw[if_neg hbi];exact .inl rfl
   ·rename_i hbt
    refine other out hl (fun e' h1 h2=>?_) (fun _ h=>h) (.inl rfl)
    rw[hv] at h1;cases h1
    subst h2
    exact hbt
end Go.Vs
namespace Go.Vs
open Go.IntWalk
theorem nZ:∀(m:Nat) (L:List Nat),L.Nodup→(∀w∈L,w<m)→L.length≤m
 |0,L,_,h=>by
  cases L with
  |nil=>simp
  |cons x l=>have:=h x (by simp);omega
 |m+1,L,hn,h=>by
  have h1:=nZ m (L.erase m) (hn.erase m) (fun w hw=>by
   have hw2:=List.mem_of_mem_erase hw
   have:=h w hw2
   have hne:w≠m:=fun e=>by
    subst e
    exact(List.Nodup.not_mem_erase hn) hw
   omega)
  have h2:=List.length_erase_le (a:=m) (l:=L)
  by_cases hm:m∈L
  ·rw[List.length_erase_of_mem hm] at h1;omega
  ·rw[List.erase_of_not_mem hm] at h1;omega
theorem wN {a b:List Int} (hl:a.length=b.length) (h:∀i,lab a i=lab b i):a=b:=by
 refine List.ext_getElem? fun i=>?_
 by_cases hi:i<a.length
 ·rw[cU hi,cU (by omega),h]
 ·rw[List.getElem?_eq_none (by omega),List.getElem?_eq_none (by omega)]
theorem CE {l:List Int} {i:Nat} (h:0≤lab l i):i<l.length:=by
 rcases Nat.lt_or_ge i l.length with hi|hi
 ·exact hi
 ·exfalso
  unfold lab at h
  rw[List.getD_eq_getElem?_getD,List.getElem?_eq_none hi] at h
  simp at h
section
variable {n:Network} {f:Int→Int→Option Int} {st:Nat}
theorem jF {z:Leg} (hz:z∈n.Legs):aI n z<(plc n).length∧bI n z<(plc n).length:=
 ⟨(cj ((c7 n _).2 ⟨z,hz,.inl rfl⟩)).1,(cj ((c7 n _).2 ⟨z,hz,.inr rfl⟩)).1⟩
structure FOk (n:Network) (f:Int→Int→Option Int):Prop where
 net:NetOk n
 ok:∀{l a d},f l a=some d→runsB n l d=true∧a≤stN n l d
theorem iW (h:FOk n f) {best:List Int} {z:Leg} {v e:Int} (hv:via n f st best z v=some e):0≤lab best (aI n z)∧lab best (aI n z)<e∧e≤92159∧∃d,f v (rdy n (lab best (aI n z)) (decide (aI n z=st)))=some d∧e=enN n v d:=by
 unfold via at hv
 split at hv
 ·cases hv
 ·rename_i h0
  simp only[Option.map_eq_some_iff] at hv
  obtain⟨d,h1,rfl⟩:=hv
  obtain⟨h2,h3⟩:=h.ok h1
  have hl:=h.net.len
  obtain⟨r1,r2,r3,r4⟩:=cV (n:=n) (by omega) h2
  obtain⟨q1,q2,q3,q4⟩:=ku h.net r1 r2 r3 r4
  have hc:=h.net.change
  have hr:lab best (aI n z)≤rdy n (lab best (aI n z)) (decide (aI n z=st)):=by unfold rdy;split<;>omega
  exact⟨by omega,by omega,q4,d,h1,rfl⟩
theorem sq {b1 b2:List Int} {z:Leg} (h:lab b1 (aI n z)=lab b2 (aI n z)) (v:Int):via n f st b1 z v=via n f st b2 z v:=by unfold via;rw[h]
theorem gW (h:FOk n f) {best:List Int} (hl:best.length=(plc n).length) (i:Nat):
 (lab (rnd n f st best) i=lab best i∨∃(j:Nat) (z:Leg) (e:Int),n.Legs[j]?=some z∧bI n z=i∧via n f st best z (j:Int)=some e∧lab (rnd n f st best) i=e∧bq best i e)∧
 (∀(j:Nat) (z:Leg) (e:Int),n.Legs[j]?=some z→bI n z=i→via n f st best z (j:Int)=some e→¬bq (rnd n f st best) i e):=by
 obtain⟨a1,a2⟩:=tZ (n:=n) (f:=f) (st:=st) (best:=best) (fun z hz=>by rw[hl];exact(jF hz).2) (fun z v e hv=>by
  obtain⟨q1,q2,_⟩:=iW h hv;omega) n.Legs 0 best (by simp) rfl i
 refine⟨?_,fun j z e h1 h2 h3=>a2 j z e h1 (by omega) h2 h3⟩
 rcases a1 with a1|⟨j,z,e,g1,g2,g3,g4,g5,g6⟩
 ·exact .inl a1
 ·exact .inr ⟨j,z,e,g1,g3,g4,g5,g6⟩
theorem iD {best:List Int}:(rnd n f st best).length=best.length:=kN _ _ _
theorem qG (h:FOk n f) {best:List Int} (hl:best.length=(plc n).length) {i:Nat} (h0:0≤lab best i):0≤lab (rnd n f st best) i∧lab (rnd n f st best) i≤lab best i:=by
 rcases(gW (st:=st) h hl i).1 with e|⟨j,z,e,g1,g2,g3,g4,g5⟩
 ·omega
 ·obtain⟨q1,q2,_⟩:=iW h g3
  unfold bq at g5
  omega
theorem zc (h:FOk n f) {best:List Int} (hl:best.length=(plc n).length) {i:Nat} (hc:lab (rnd n f st (rnd n f st best)) i≠lab (rnd n f st best) i):
 ∃u,lab (rnd n f st best) u≠lab best u∧0≤lab (rnd n f st best) u∧lab (rnd n f st best) u<lab (rnd n f st (rnd n f st best)) i∧bq (rnd n f st best) i (lab (rnd n f st (rnd n f st best)) i):=by
 rcases(gW (st:=st) h (iD.trans hl) i).1 with e|⟨j,z,e,g1,g2,g3,g4,g5⟩
 ·exact absurd e hc
 ·obtain⟨q1,q2,_⟩:=iW h g3
  refine⟨aI n z,fun he=>?_,q1,by omega,by rw[g4];exact g5⟩
  rw[sq he] at g3
  exact(gW (st:=st) h hl i).2 j z e g1 g2 g3 g5
theorem mA (h:FOk n f) {best:List Int} (hl:best.length=(plc n).length):∀(k i:Nat),lab (itr n f st (k+1) best) i≠lab (itr n f st k best) i→
 ∃L:List Nat,L.Nodup∧L.length=k+2∧∀w∈L,w<(plc n).length∧0≤lab (itr n f st (k+1) best) w∧lab (itr n f st (k+1) best) w≤lab (itr n f st (k+1) best) i
 |0,i,hc=>by
  have e1:itr n f st (0+1) best=rnd n f st best:=rfl
  rw[e1] at hc ⊢
  rcases(gW (st:=st) h hl i).1 with e|⟨j,z,e,g1,g2,g3,g4,g5⟩
  ·exact absurd e hc
  ·obtain⟨q1,q2,_⟩:=iW h g3
   have hi:=(jF (List.mem_of_getElem? g1)).2
   have hu:=(jF (List.mem_of_getElem? g1)).1
   rw[g2] at hi
   have hm:=qG (st:=st) h hl q1
   refine⟨[i,aI n z],?_,rfl,fun w hw=>?_⟩
   ·simp only[List.nodup_cons,List.mem_singleton,List.not_mem_nil,not_false_eq_true,List.nodup_nil,and_self,and_true]
    intro e'
    rw[←e'] at q1 q2
    unfold bq at g5
    omega
   ·simp only[List.mem_cons,List.not_mem_nil,or_false] at hw
    rcases hw with rfl|rfl
    ·exact⟨hi,by omega,Int.le_refl _⟩
    ·exact⟨hu,hm.1,by omega⟩
 |k+1,i,hc=>by
  rw[gz (k+1),gz k] at hc
  obtain⟨u,hu,u0,u1,u2⟩:=zc h ((ff _ _).trans hl) hc
  rw[←gz k] at hu u0 u1 u2
  obtain⟨L,l1,l2,l3⟩:=mA h hl k u hu
  rw[gz (k+1)]
  have hlen:(itr n f st (k+1) best).length=(plc n).length:=by rw[ff];exact hl
  refine⟨i::L,List.nodup_cons.2 ⟨fun hi=>?_,l1⟩,by simp[l2],fun w hw=>?_⟩
  ·obtain⟨_,b1,b2⟩:=l3 i hi
   unfold bq at u2
   omega
  ·rcases List.mem_cons.1 hw with rfl|hw
   ·refine⟨?_,by omega,Int.le_refl _⟩
    have:w<(rnd n f st (itr n f st (k+1) best)).length:=CE (by omega)
    rwa [iD,hlen] at this
   ·obtain⟨b0,b1,b2⟩:=l3 w hw
    have hm:=qG (st:=st) h hlen b1
    exact⟨b0,hm.1,by omega⟩
theorem wO (h:FOk n f) {best:List Int} (hl:best.length=(plc n).length) {k:Nat} (hk:(plc n).length≤k+1):rnd n f st (itr n f st k best)=itr n f st k best:=by
 refine wN iD fun i=>?_
 rcases Decidable.em (lab (rnd n f st (itr n f st k best)) i=lab (itr n f st k best) i) with e|e
 ·exact e
 ·exfalso
  rw[←gz] at e
  obtain⟨L,l1,l2,l3⟩:=mA h hl k i e
  have:=nZ _ L l1 fun w hw=>(l3 w hw).1
  omega
theorem Cr (h:FOk n f) {best:List Int} (hl:best.length=(plc n).length) (m:Nat):itr n f st (min m (plc n).length) best=itr n f st m best:=by
 rcases Nat.le_total m (plc n).length with hm|hm
 ·rw[Nat.min_eq_left hm]
 ·rw[Nat.min_eq_right hm]
  obtain⟨k,rfl⟩:∃k,m=(plc n).length+k:=⟨m-(plc n).length,by omega⟩
  rw[pg,s7 (wO h hl (by omega))]
theorem vF (h:FOk n f) {best:List Int} (hl:best.length=(plc n).length) (hb:∀i,lab best i≤100000) (i:Nat):lab (rnd n f st best) i≤100000:=by
 rcases(gW (st:=st) h hl i).1 with e|⟨j,z,e,g1,g2,g3,g4,g5⟩
 ·rw[e];exact hb i
 ·obtain⟨q1,q2,q3,_⟩:=iW h g3;omega
theorem vL (h:FOk n f):∀(m:Nat) {best:List Int},best.length=(plc n).length→(∀i,lab best i≤100000)→∀i,lab (itr n f st m best) i≤100000
 |0,best,_,hb,i=>hb i
 |m+1,best,hl,hb,i=>vL h m (iD.trans hl) (vF h hl hb) i
end
end Go.Vs
namespace Go.Vs
open Go.IntWalk
theorem A9 {fd:Fd} {n:Network} {f:Int→Int→Option Int} (hn:NetOk n) (hf:Find fd n f) {best:List Int} (hl:best.length=(plc n).length) (hb:∀i,lab best i≤100000) {st:Nat}:∀(ls:List Leg) (k:Nat) (out:List Int) (ch:Bool),n.Legs.drop k=ls→out.length=(plc n).length→
 be G.real TE.real n fd best (plc n) (st:Int) ls (k:Int) out ch=some (gJ n f st best ls (k:Int) out,ch||chg n f st best ls (k:Int) out)
 |[],k,out,ch,_,_=>by rw[be,gJ,chg,Bool.or_false]
 |z::ls,k,out,ch,hd,ho=>by
  have hlen:=hn.len
  have hk:k<n.Legs.length:=by
   have:=congrArg List.length hd
   simp at this;omega
  have hz:n.Legs[k]?=some z:=by
   have:(n.Legs.drop k)[0]?=some z:=by rw[hd];rfl
   simpa using this
  have hd2:n.Legs.drop (k+1)=ls:=by
   have:=congrArg List.tail hd
   simpa using this
  have hm:=List.mem_of_getElem? hz
  obtain⟨ha,hbz⟩:=jF hm
  have pl:=dT n
  have e1:ix (plc n) z.From=(aI n z:Int):=gN ((c7 n _).2 ⟨z,hm,.inl rfl⟩)
  have e2:ix (plc n) z.To=(bI n z:Int):=gN ((c7 n _).2 ⟨z,hm,.inr rfl⟩)
  have hk1:(k:Int)+1=((k+1:Nat):Int):=by omega
  rw[be,gJ,chg]
  simp only[aP,nt (show(plc n).length≤4194304 by omega),e1,e2,cO,cw,Int.toNat_natCast,cP,bR,ib,ao]
  rw[aj (by omega),ax (cU (l:=best) (by omega)),w64 (n:=(k:Int)+1) (by omega) (by omega),hk1]
  have ih:=fun o c ho=>A9 hn hf hl hb (st:=st) ls (k+1) o c hd2 ho
  by_cases h0:lab best (aI n z)<0
  ·have hv:via n f st best z (k:Int)=none:=by unfold via;rw[if_pos h0]
   rw[if_pos h0,hv]
   exact ih out ch ho
  ·rw[if_neg h0,aj (by omega)]
   have hx:=hb (aI n z)
   have hc:=hn.change
   have er:fC G.real TE.real n (lab best (aI n z)) (decide ((aI n z:Int)=(st:Int)))=rdy n (lab best (aI n z)) (decide (aI n z=st)):=by
    unfold fC rdy
    simp only[bR,ao]
    rw[w64 (by omega) (by omega)]
    by_cases hs:aI n z=st
    ·rw[if_pos (by omega),if_pos (by simp[hs])]
    ·rw[if_neg (by omega),if_neg (by simp[hs])]
   rw[er,hf.call,af]
   cases hfv:f (k:Int) (rdy n (lab best (aI n z)) (decide (aI n z=st))) with
   |none=>
    have hv:via n f st best z (k:Int)=none:=by unfold via;rw[if_neg h0,hfv];rfl
    rw[hv]
    exact ih out ch ho
   |some d=>
    have hv:via n f st best z (k:Int)=some (enN n (k:Int) d):=by unfold via;rw[if_neg h0,hfv];rfl
    rw[hv]
    obtain⟨r1,r2,r3,r4⟩:=cV (n:=n) (by omega) (hf.ok hfv).1
    simp only[tbO,dK]
    rw[aj (by omega),ax (cU (l:=out) (by omega)),xJ hn r1 r2 r3 r4]
    simp only[af]
    have ho2:(out.set (bI n z) (enN n (k:Int) d)).length=(plc n).length:=by simpa using ho
    by_cases h1:lab out (bI n z)<0
    ·have hbt:bq out (bI n z) (enN n (k:Int) d):=.inl h1
     rw[if_pos h1,aj (by omega),if_pos hbt,if_pos hbt,ih _ true ho2,Bool.true_or,Bool.or_true]
    ·rw[if_neg h1,aj (by omega)]
     by_cases h2:enN n (k:Int) d<lab out (bI n z)
     ·have hbt:bq out (bI n z) (enN n (k:Int) d):=.inr h2
      rw[if_pos h2,aj (by omega),if_pos hbt,if_pos hbt,ih _ true ho2,Bool.true_or,Bool.or_true]
     ·have hbt:¬bq out (bI n z) (enN n (k:Int) d):=by unfold bq;omega
      rw[if_neg h2,if_neg hbt,if_neg hbt]
      exact ih out ch ho
theorem A3 {fd:Fd} {n:Network} {f:Int→Int→Option Int} (hn:NetOk n) (hf:Find fd n f) {st:Nat}:∀(m:Nat) (best:List Int),best.length=(plc n).length→(∀i,lab best i≤100000)→
 cM G.real TE.real n fd (plc n) (st:Int) m best=some (itr n f st m best)
 |0,best,_,_=>by rw[cM];rfl
 |m+1,best,hl,hb=>by
  have pl:=dT n
  have hlen:=hn.len
  have hok:FOk n f:=⟨hn,hf.ok⟩
  rw[cM]
  simp only[aP,List.nil_append]
  rw[aj (by simp;omega),show(0:Int)=((0:Nat):Int) from rfl,A9 hn hf hl hb n.Legs 0 best false (by simp) hl,af,Bool.false_or]
  cases hc:chg n f st best n.Legs ((0:Nat):Int) best with
  |true=>
   rw[dK]
   exact A3 hn hf m (rnd n f st best) (iD.trans hl) (vF hok hl hb)
  |false=>
   rw[mb]
   have e:rnd n f st best=best:=nO hc
   rw[show gJ n f st best n.Legs ((0:Nat):Int) best=rnd n f st best from rfl,s7 e,e]
theorem z8:∀(m:Nat) (w:List Int),w.length+m≤1000000→cJ G.real TE.real m w=some (w++List.replicate m (-1))
 |0,w,_=>by rw[cJ];simp
 |m+1,w,h=>by
  rw[cJ]
  simp only[aP]
  rw[aj (by simp;omega),z8 m _ (by simp;omega),List.append_assoc]
  rfl
def fU (n:Network) (st:Nat) (a:Int):List Int:=(List.replicate (plc n).length (-1)).set st (max a 0)
theorem en (n:Network) (st:Nat) (a:Int):(fU n st a).length=(plc n).length:=by unfold fU;simp
theorem iU {n:Network} {st:Nat} (hst:st<(plc n).length) (a:Int) (i:Nat):lab (fU n st a) i=if i=st then max a 0 else-1:=by
 unfold fU
 rw[pd (by simpa using hst)]
 by_cases h:st=i
 ·rw[if_pos h,if_pos h.symm]
 ·rw[if_neg h,if_neg (fun e=>h e.symm)]
  unfold lab
  rw[List.getD_eq_getElem?_getD,List.getElem?_replicate]
  split<;>rfl
theorem sM {n:Network} {st:Nat} (hst:st<(plc n).length) {a:Int} (ha:a≤100000) (i:Nat):lab (fU n st a) i≤100000:=by
 rw[iU hst];split<;>omega
def lq (n:Network) (f:Int→Int→Option Int) (s:ByteArray) (a:Int) (m:Int):List Int:=
 if s∉plc n∨100000<a∨m<0 then[] else itr n f (ixN (plc n) s) m.toNat (fU n (ixN (plc n) s) a)
theorem xF {fd:Fd} {n:Network} {f:Int→Int→Option Int} (hn:NetOk n) (hf:Find fd n f) (s:ByteArray) (a:Int) {m:Int} (hm:m≤9223372036854775807):
 gj G.real TE.real n fd s a m=some (lq n f s a m):=by
 have pl:=dT n
 have hlen:=hn.len
 unfold gj lq
 rw[xk (by omega)]
 simp only[af,aP,nt (show(plc n).length≤4194304 by omega),cP,ao,iy,iu,cO,cw]
 by_cases h1:s∈plc n
 ·have hi:=cj h1
  rw[gN h1,if_neg (by omega)]
  by_cases h2:100000<a
  ·rw[if_pos h2,if_pos (by simp[h2])]
  ·rw[if_neg h2]
   by_cases h3:m<0
   ·rw[if_pos h3,if_pos (by simp[h3])]
   ·rw[if_neg h3,if_neg (by simp[h1,h2,h3])]
    have cn:aW 0 ((plc n).length:Int)=(plc n).length:=by unfold aW;omega
    have cm:aW 0 m=m.toNat:=by unfold aW;omega
    rw[aj (by omega),cn,z8 _ _ (by simp;omega),af,List.nil_append,aj (by rw[List.length_replicate];omega),Int.toNat_natCast,ax (cU (by rw[List.length_replicate];exact hi.1)),aj hm,cm]
    have e:(List.replicate (plc n).length (-1)).set (ixN (plc n) s) (G.real.imax a 0)=fU n (ixN (plc n) s) a:=rfl
    rw[e,A3 hn hf _ _ (en _ _ _) (sM hi.1 (by omega)),af]
 ·rw[if_pos (pY.2 h1),if_pos (.inl h1)]
theorem qs (a:Int) (st:Nat):∀(ls:List ByteArray) (k:Nat) (w:List Int),k+ls.length≤4194304→w.length+ls.length≤4194304→cC G.real TE.real (st:Int) a ls (k:Int) w=some (w++(List.range' k ls.length).map fun i=>if i=st then max a 0 else-1)
 |[],k,w,_,_=>by rw[cC];simp
 |z::ls,k,w,h,h2=>by
  simp only[List.length_cons] at h h2
  have em:tW G.real TE.real a 0=max a 0:=by
   unfold tW
   simp only[cP,ao]
   split<;>omega
  rw[cC]
  simp only[ib,ao,aP,bR,em]
  rw[w64 (by omega) (by omega),show(k:Int)+1=((k+1:Nat):Int) from by omega,aj (by simp;omega),aj (by simp;omega),qs a st ls (k+1) _ (by omega) (by simp;omega),qs a st ls (k+1) _ (by omega) (by simp;omega),List.length_cons,List.range'_succ,List.map_cons]
  by_cases hk:k=st
  ·rw[if_pos (by omega),if_pos hk];simp
  ·rw[if_neg (by omega),if_neg hk];simp
theorem B4 {n:Network} (hn:NetOk n) {st:Nat} (hst:st<(plc n).length) (a:Int):iX G.real TE.real (plc n) (st:Int) a=some (fU n st a):=by
 have pl:=dT n
 have hlen:=hn.len
 unfold iX
 rw[aP,show(0:Int)=((0:Nat):Int) from rfl,qs a st (plc n) 0 [] (by omega) (by simp;omega),af,List.nil_append]
 congr 1
 refine wN (by rw[en];simp) fun i=>?_
 rw[iU hst]
 unfold lab
 rw[List.getD_eq_getElem?_getD,List.getElem?_map]
 by_cases hi:i<(plc n).length
 ·rw[List.getElem?_range' hi];simp
 ·rw[List.getElem?_eq_none (by simp;omega)]
  simp only[Option.map_none,Option.getD_none]
  rw[if_neg (by omega)]
theorem ba_i {n:Network} (hn:NetOk n) (ht:n.tot≤1048576) (hb:netB n=true) (s:ByteArray) (a:Int) {m:Int} (hm:m≤9223372036854775807):cR G.real TE.real n s a m=some (lq n (fN n) s a m):=by
 unfold cR mJ
 rw[sz ht,hb]
 simp only[af,aP,dK]
 rw[xF hn (nH hn) s a hm,af]
def eaB (n:Network) (s p:ByteArray) (a:Int):Int:=
 if netB n=true∧s∈plc n∧a≤100000∧p∈plc n then lab (lq n (fN n) s a (plc n).length) (ixN (plc n) p) else-1
theorem t9 {n:Network} {f:Int→Int→Option Int} {s:ByteArray} {a m:Int} (h1:s∈plc n) (h2:a≤100000) (h3:0≤m):(lq n f s a m).length=(plc n).length:=by
 unfold lq
 rw[if_neg (by simp[h1];omega),ff,en]
theorem ea_i {n:Network} (ht:n.tot≤1048576) (hl:n.Legs.length≤1048576) (s p:ByteArray) (a:Int):eM G.real TE.real n s p a=some (eaB n s p a):=by
 have pl:=dT n
 unfold eM eaB
 rw[xk (by omega)]
 simp only[af,iu,iy]
 cases hb:netB n with
 |false=>
  have e:cR G.real TE.real n s a ((plc n).length:Int)=some []:=by
   unfold cR;rw[sz ht,hb];rfl
  rw[e,if_neg (by simp)]
  simp only[af,aP,cP,ib,ao,cO]
  split
  ·rfl
  ·rfl
 |true=>
  have hn:=iM ht hb
  rw[ba_i hn ht hb s a (by omega),af]
  simp only[aP,nt (show(plc n).length≤4194304 by omega),cP,ib,ao,cO,cw]
  by_cases hp:p∈plc n
  ·have hi:=cj hp
   rw[gN hp,if_neg (by omega)]
   by_cases hs:s∈plc n∧a≤100000
   ·have hla:=t9 (n:=n) (f:=fN n) (m:=((plc n).length:Int)) hs.1 hs.2 (by omega)
    rw[hla,if_neg (by omega),aj (by omega),Int.toNat_natCast,ax (cU (by omega)),if_pos (by simp[hs,hp])]
   ·have e:lq n (fN n) s a ((plc n).length:Int)=[]:=by
     unfold lq
     rw[if_pos]
     by_cases h1:s∈plc n
     ·right;left
      have:¬a≤100000:=fun h=>hs ⟨h1,h⟩
      omega
     ·exact .inl h1
    rw[e,if_pos (by simp),if_neg (fun h=>hs ⟨h.2.1,h.2.2.1⟩)]
  ·rw[if_pos (pY.2 hp),if_neg (fun h=>hp h.2.2.2)]
end Go.Vs
namespace Go.Vs
open Go.IntWalk
structure ScOk (n:Network) (s:Scan):Prop where
 net:netB n=true
 thing:1≤s.Thing∧s.Thing≤9999
 time:0≤s.At∧s.At≤100000
 kind:s.Kind=1∨s.Kind=2∨s.Kind=3∨s.Kind=4
 at_:s.Kind=1∨s.Kind=4→s.Place∈plc n∧s.Trip.Leg=0∧s.Trip.Day=0
 load:s.Kind=3→s.Place=str_k0∧runsB n s.Trip.Leg s.Trip.Day=true∧s.At≤stN n s.Trip.Leg s.Trip.Day
 drop:s.Kind=2→s.Place=str_k0∧runsB n s.Trip.Leg s.Trip.Day=true∧enN n s.Trip.Leg s.Trip.Day≤s.At
end Go.Vs
namespace Go.Vs
open Go.IntWalk
end Go.Vs
