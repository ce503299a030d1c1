/- Part of the proofs of this seat's laws: Cy. No condition. -/
import Derived.Test.YtilplaaijbpilaaGreatNet
import Derived.Test.YtilplaaijbpilaaGreatLad
import Derived.Test.YtilplaaijbpilaaGreatLab
import Derived.Test.YtilplaaijbpilaaGreatWays
import Derived.Test.YtilplaaijbpilaaGreatLac
set_option linter.unusedVariables false
set_option linter.unusedSimpArgs false
set_option linter.unusedSectionVars false
namespace Go.Vs
open Go.IntWalk
def fdD (p:Int→Bool):Nat→Int→Option Int
 |0,_=>none
 |n+1,v=>if p v=true then some v else fdD p n (v+1)
theorem xJ {p:Int→Bool}:∀{n:Nat} {v d:Int},fdD p n v=some d→p d=true∧v≤d∧d<v+n
 |n+1,v,d,h=>by
  unfold fdD at h
  split at h
  ·rename_i hp;cases h;exact⟨hp,by omega,by omega⟩
  ·obtain⟨h1,h2,h3⟩:=xJ h;exact⟨h1,by omega,by omega⟩
def tbO (l:Int):Option Int→Trip×Bool
 |some d=>(⟨l,d⟩,true)
 |none=>(⟨0,0⟩,false)
def dyO:Option Int→Int
 |some d=>d
 |none=> -1
def pN (n:Network) (l at_:Int) (d:Int):Bool:=runsB n l d&&decide (at_≤stN n l d)
theorem z8 {n:Network} (hn:NetOk n) {l:Int} (at_:Int):∀(m:Nat) (v:Int),0≤v→v+m≤1000→fS G.real TE.real n l at_ m v=some (match fdD (pN n l at_) m v with|some d=>.ret (⟨l,d⟩,true)|none=>.out ())
 |0,v,_,_=>by rw[fS,fdD]
 |m+1,v,h0,h1=>by
  have hl:n.Legs.length≤1048576:=by have:=hn.len;omega
  rw[fS,fdD,yk hl]
  simp only[af,bc,iI,am]
  rw[w64 (by omega) (by omega),z8 hn at_ m (v+1) (by omega) (by omega)]
  unfold pN
  cases hr:runsB n l v with
  |false=>rfl
  |true=>
   obtain⟨r1,r2,r3,r4⟩:=gm hl hr
   rw[bd,kb hn r1 r2 r3 r4,af]
   by_cases hc:at_≤stN n l v
   ·rw[if_pos hc];simp[hc]
   ·rw[if_neg hc];simp[hc]
theorem FK {n:Network} (hn:NetOk n) (l at_:Int):sE G.real TE.real n l at_=some (tbO l (fdD (pN n l at_) 61 0)):=by
 unfold sE
 rw[show e9 0 60=61 from rfl,z8 hn at_ 61 0 (by omega) (by omega),af]
 cases fdD (pN n l at_) 61 0<;>rfl
theorem zQ {n:Network} (hn:NetOk n) {l:Int} (at_:Int):∀(m:Nat) (v:Int),0≤v→v+m≤1000→dZ G.real TE.real n l at_ m v=some (match fdD (pN n l at_) m v with|some d=>.ret d|none=>.out ())
 |0,v,_,_=>by rw[dZ,fdD]
 |m+1,v,h0,h1=>by
  have hl:n.Legs.length≤1048576:=by have:=hn.len;omega
  rw[dZ,fdD,Cz hl]
  simp only[af,bc,iI,am]
  rw[w64 (by omega) (by omega),zQ hn at_ m (v+1) (by omega) (by omega)]
  unfold pN
  cases hr:runsB n l v with
  |false=>rfl
  |true=>
   obtain⟨r1,r2,r3,r4⟩:=gm hl hr
   rw[bd,jd hn r1 r2 r3 r4,af]
   by_cases hc:at_≤stN n l v
   ·rw[if_pos hc];simp[hc]
   ·rw[if_neg hc];simp[hc]
theorem Fl {n:Network} (hn:NetOk n) (l at_:Int):mC G.real TE.real n l at_=some (dyO (fdD (pN n l at_) 61 0)):=by
 unfold mC
 rw[show e9 0 60=61 from rfl,zQ hn at_ 61 0 (by omega) (by omega),af]
 cases fdD (pN n l at_) 61 0<;>rfl
structure Find (fd:Fd) (n:Network) (f:Int→Int→Option Int):Prop where
 call:∀l a,callFd G.real TE.real fd l a=some (tbO l (f l a))
 ok:∀{l a d},f l a=some d→runsB n l d=true∧a≤stN n l d
def fN (n:Network) (l a:Int):Option Int:=fdD (pN n l a) 61 0
theorem kP {n:Network} (hn:NetOk n):Find (.I_nextOf_1 n) n (fN n):=by
 refine⟨fun l a=>?_,fun{l a d} h=>?_⟩
 ·show I_nextOf_1 G.real TE.real l a n=_
  unfold I_nextOf_1
  rw[FK hn,af]
  rfl
 ·obtain⟨h1,_,_⟩:=xJ h
  unfold pN at h1
  simpa using h1
end Go.Vs
namespace Go.Vs
open Go.IntWalk
def lab (l:List Int) (i:Nat):Int:=l.getD i (-1)
theorem i5 {l:List Int} {i:Nat} (h:i<l.length):l[i]?=some (lab l i):=by
 unfold lab
 rw[List.getD_eq_getElem?_getD,List.getElem?_eq_getElem h];rfl
theorem qU {l:List Int} {i j:Nat} {x:Int} (h:i<l.length):lab (l.set i x) j=if i=j then x else lab l j:=by
 unfold lab
 rw[List.getD_eq_getElem?_getD,List.getD_eq_getElem?_getD,List.getElem?_set]
 by_cases e:i=j
 ·subst e;simp[h]
 ·simp[e]
def aI (n:Network) (z:Leg):Nat:=ixN (plc n) z.From
def bI (n:Network) (z:Leg):Nat:=ixN (plc n) z.To
def rdy (n:Network) (x:Int) (first:Bool):Int:=if first=true then x else x+n.Change
def via (n:Network) (f:Int→Int→Option Int) (st:Nat) (best:List Int) (z:Leg) (v:Int):Option Int:=
 if lab best (aI n z)<0 then none else(f v (rdy n (lab best (aI n z)) (decide (aI n z=st)))).map (enN n v)
def bS (out:List Int) (b:Nat) (e:Int):Prop:=lab out b<0∨e<lab out b
instance (out:List Int) (b:Nat) (e:Int):Decidable (bS out b e):=inferInstanceAs (Decidable (_∨_))
def iT (n:Network) (f:Int→Int→Option Int) (st:Nat) (best:List Int):List Leg→Int→List Int→List Int
 |[],_,out=>out
 |z::ls,v,out=>match via n f st best z v with
  |none=>iT n f st best ls (v+1) out
  |some e=>if bS out (bI n z) e then iT n f st best ls (v+1) (out.set (bI n z) e) else iT n f st best ls (v+1) out
def chg (n:Network) (f:Int→Int→Option Int) (st:Nat) (best:List Int):List Leg→Int→List Int→Bool
 |[],_,_=>false
 |z::ls,v,out=>match via n f st best z v with
  |none=>chg n f st best ls (v+1) out
  |some e=>if bS out (bI n z) e then true else chg n f st best ls (v+1) out
theorem pH {n:Network} {f:Int→Int→Option Int} {st:Nat} {best:List Int}:∀{ls:List Leg} {v:Int} {out:List Int},chg n f st best ls v out=false→iT n f st best ls v out=out
 |[],_,_,_=>rfl
 |z::ls,v,out,h=>by
  unfold chg at h
  unfold iT
  split at h
  ·exact pH h
  ·split at h
   ·cases h
   ·rename_i hb;simp only[if_neg hb];exact pH h
def rnd (n:Network) (f:Int→Int→Option Int) (st:Nat) (best:List Int):List Int:=iT n f st best n.Legs 0 best
def itr (n:Network) (f:Int→Int→Option Int) (st:Nat):Nat→List Int→List Int
 |0,best=>best
 |m+1,best=>itr n f st m (rnd n f st best)
theorem uW {n:Network} {f:Int→Int→Option Int} {st:Nat} {best:List Int} (h:rnd n f st best=best):∀m,itr n f st m best=best
 |0=>rfl
 |m+1=>by rw[itr,h,uW h m]
theorem uH {n:Network} {f:Int→Int→Option Int} {st:Nat}:∀(a b:Nat) (best:List Int),itr n f st (a+b) best=itr n f st b (itr n f st a best)
 |0,b,best=>by rw[Nat.zero_add];rfl
 |a+1,b,best=>by rw[show a+1+b=(a+b)+1 by omega,itr,itr,uH a b]
theorem mp {n:Network} {f:Int→Int→Option Int} {st:Nat} (m:Nat) (best:List Int):itr n f st (m+1) best=rnd n f st (itr n f st m best):=uH m 1 best
theorem mA {n:Network} {f:Int→Int→Option Int} {st:Nat} {best:List Int}:∀(ls:List Leg) (v:Int) (out:List Int),(iT n f st best ls v out).length=out.length
 |[],_,_=>rfl
 |z::ls,v,out=>by
  unfold iT
  split
  ·exact mA ls _ _
  ·split
   ·rw[mA ls];simp
   ·exact mA ls _ _
theorem qX {n:Network} {f:Int→Int→Option Int} {st:Nat}:∀(m:Nat) (best:List Int),(itr n f st m best).length=best.length
 |0,_=>rfl
 |m+1,best=>by rw[itr,qX m,rnd,mA]
theorem xo {n:Network} {f:Int→Int→Option Int} {st:Nat} {best:List Int} (hb:∀z∈n.Legs,bI n z<best.length) (he:∀z v e,via n f st best z v=some e→0≤e):∀(ls:List Leg) (k:Nat) (out:List Int),n.Legs.drop k=ls→out.length=best.length→∀i,
 (lab (iT n f st best ls (k:Int) out) i=lab out i∨∃j z e,n.Legs[j]?=some z∧k≤j∧bI n z=i∧via n f st best z (j:Int)=some e∧lab (iT n f st best ls (k:Int) out) i=e∧bS out i e)∧
 (∀j z e,n.Legs[j]?=some z→k≤j→bI n z=i→via n f st best z (j:Int)=some e→¬bS (iT n f st best ls (k:Int) out) i e)
 |[],k,out,hd,hl,i=>by
  refine⟨.inl rfl,fun j z e h1 h2 _ _=>?_⟩
  have:=List.drop_eq_nil_iff.1 hd
  rw[List.getElem?_eq_none (by omega)] at h1
  cases h1
 |z::ls,k,out,hd,hl,i=>by
  have hk:k<n.Legs.length:=by
   have:=congrArg List.length hd
   simp at this;omega
  have hz:n.Legs[k]?=some z:=by
   have:(n.Legs.drop k)[0]?=some z:=by rw[hd];rfl
   simpa using this
  have hd2:n.Legs.drop (k+1)=ls:=by
   have:=congrArg List.tail hd
   simpa using this
  have hbz:=hb z (List.mem_of_getElem? hz)
  have hk1:(k:Int)+1=((k+1:Nat):Int):=by omega
  have other:∀(o:List Int),o.length=best.length→(∀e,via n f st best z (k:Int)=some e→bI n z=i→¬bS o i e)→(∀e,bS o i e→bS out i e)→(lab o i=lab out i∨∃e,bI n z=i∧via n f st best z (k:Int)=some e∧lab o i=e∧bS out i e)→
   (lab (iT n f st best ls ((k+1:Nat):Int) o) i=lab out i∨∃j z e,n.Legs[j]?=some z∧k≤j∧bI n z=i∧via n f st best z (j:Int)=some e∧lab (iT n f st best ls ((k+1:Nat):Int) o) i=e∧bS out i e)∧
   (∀j z e,n.Legs[j]?=some z→k≤j→bI n z=i→via n f st best z (j:Int)=some e→¬bS (iT n f st best ls ((k+1:Nat):Int) o) i e):=by
   intro o ho h1 h2 h3
   obtain⟨a1,a2⟩:=xo hb he ls (k+1) o hd2 ho i
   refine⟨?_,fun j z' e g1 g2 g3 g4=>?_⟩
   ·rcases a1 with a1|⟨j,z',e,g1,g2,g3,g4,g5,g6⟩
    ·rw[a1]
     rcases h3 with h3|⟨e,h3,h4,h5,h6⟩
     ·exact .inl h3
     ·exact .inr ⟨k,z,e,hz,Nat.le_refl _,h3,h4,h5,h6⟩
    ·exact .inr ⟨j,z',e,g1,by omega,g3,g4,g5,h2 e g6⟩
   ·by_cases hj:j=k
    ·subst hj
     rw[hz] at g1
     cases g1
     have hnb:=h1 e g4 g3
     have h0:=he _ _ _ g4
     rcases a1 with a1|⟨j,z',e',q1,q2,q3,q4,q5,q6⟩
     ·unfold bS at hnb ⊢;rw[a1];exact hnb
     ·have h0':=he _ _ _ q4
      unfold bS at hnb q6 ⊢
      rw[q5];omega
    ·exact a2 j z' e g1 (by omega) g3 g4
  unfold iT
  split
  ·rename_i hv
   rw[hk1]
   exact other out hl (fun e h=>by rw[hv] at h;cases h) (fun _ h=>h) (.inl rfl)
  ·rename_i e hv
   have h0:=he _ _ _ hv
   rw[hk1]
   split
   ·rename_i hbt
    refine other (out.set (bI n z) e) (by simpa using hl) (fun e' h1 h2=>?_) (fun e' h=>?_) ?_
    ·rw[hv] at h1;cases h1
     unfold bS
     rw[qU (by omega),if_pos h2];omega
    ·unfold bS at h ⊢
     rw[qU (by omega)] at h
     split at h
     ·rename_i hbi
      subst hbi
      unfold bS at hbt
      omega
     ·exact h
    ·rw[qU (by omega)]
     by_cases hbi:bI n z=i
     ·rw[if_pos hbi];subst hbi;exact .inr ⟨e,rfl,hv,rfl,hbt⟩
     ·rw[if_neg hbi];exact .inl rfl
   ·rename_i hbt
    refine other out hl (fun e' h1 h2=>?_) (fun _ h=>h) (.inl rfl)
    rw[hv] at h1;cases h1
    subst h2
    exact hbt
end Go.Vs
namespace Go.Vs
open Go.IntWalk
theorem qm:∀(m:Nat) (L:List Nat),L.Nodup→(∀w∈L,w<m)→L.length≤m
 |0,L,_,h=>by
  cases L with
  |nil=>simp
  |cons x l=>have:=h x (by simp);omega
 |m+1,L,hn,h=>by
  have h1:=qm m (L.erase m) (hn.erase m) (fun w hw=>by
   have hw2:=List.mem_of_mem_erase hw
   have:=h w hw2
   have hne:w≠m:=fun e=>by
    subst e
    exact(List.Nodup.not_mem_erase hn) hw
   omega)
  have h2:=List.length_erase_le (a:=m) (l:=L)
  by_cases hm:m∈L
  ·rw[List.length_erase_of_mem hm] at h1;omega
  ·rw[List.erase_of_not_mem hm] at h1;omega
theorem zW {a b:List Int} (hl:a.length=b.length) (h:∀i,lab a i=lab b i):a=b:=by
 refine List.ext_getElem? fun i=>?_
 by_cases hi:i<a.length
 ·rw[i5 hi,i5 (by omega),h]
 ·rw[List.getElem?_eq_none (by omega),List.getElem?_eq_none (by omega)]
theorem EJ {l:List Int} {i:Nat} (h:0≤lab l i):i<l.length:=by
 rcases Nat.lt_or_ge i l.length with hi|hi
 ·exact hi
 ·exfalso
  unfold lab at h
  rw[List.getD_eq_getElem?_getD,List.getElem?_eq_none hi] at h
  simp at h
section
variable {n:Network} {f:Int→Int→Option Int} {st:Nat}
theorem pb {z:Leg} (hz:z∈n.Legs):aI n z<(plc n).length∧bI n z<(plc n).length:=
 ⟨(lk ((lH n _).2 ⟨z,hz,.inl rfl⟩)).1,(lk ((lH n _).2 ⟨z,hz,.inr rfl⟩)).1⟩
structure FOk (n:Network) (f:Int→Int→Option Int):Prop where
 net:NetOk n
 ok:∀{l a d},f l a=some d→runsB n l d=true∧a≤stN n l d
theorem k9 (h:FOk n f) {best:List Int} {z:Leg} {v e:Int} (hv:via n f st best z v=some e):0≤lab best (aI n z)∧lab best (aI n z)<e∧e≤92159∧∃d,f v (rdy n (lab best (aI n z)) (decide (aI n z=st)))=some d∧e=enN n v d:=by
 unfold via at hv
 split at hv
 ·cases hv
 ·rename_i h0
  simp only[Option.map_eq_some_iff] at hv
  obtain⟨d,h1,rfl⟩:=hv
  obtain⟨h2,h3⟩:=h.ok h1
  have hl:=h.net.len
  obtain⟨r1,r2,r3,r4⟩:=gm (n:=n) (by omega) h2
  obtain⟨q1,q2,q3,q4⟩:=nF h.net r1 r2 r3 r4
  have hc:=h.net.change
  have hr:lab best (aI n z)≤rdy n (lab best (aI n z)) (decide (aI n z=st)):=by unfold rdy;split<;>omega
  exact⟨by omega,by omega,q4,d,h1,rfl⟩
theorem Be {b1 b2:List Int} {z:Leg} (h:lab b1 (aI n z)=lab b2 (aI n z)) (v:Int):via n f st b1 z v=via n f st b2 z v:=by unfold via;rw[h]
theorem mP (h:FOk n f) {best:List Int} (hl:best.length=(plc n).length) (i:Nat):
 (lab (rnd n f st best) i=lab best i∨∃(j:Nat) (z:Leg) (e:Int),n.Legs[j]?=some z∧bI n z=i∧via n f st best z (j:Int)=some e∧lab (rnd n f st best) i=e∧bS best i e)∧
 (∀(j:Nat) (z:Leg) (e:Int),n.Legs[j]?=some z→bI n z=i→via n f st best z (j:Int)=some e→¬bS (rnd n f st best) i e):=by
 obtain⟨a1,a2⟩:=xo (n:=n) (f:=f) (st:=st) (best:=best) (fun z hz=>by rw[hl];exact(pb hz).2) (fun z v e hv=>by
  obtain⟨q1,q2,_⟩:=k9 h hv;omega) n.Legs 0 best (by simp) rfl i
 refine⟨?_,fun j z e h1 h2 h3=>a2 j z e h1 (by omega) h2 h3⟩
 rcases a1 with a1|⟨j,z,e,g1,g2,g3,g4,g5,g6⟩
 ·exact .inl a1
 ·exact .inr ⟨j,z,e,g1,g3,g4,g5,g6⟩
theorem mW {best:List Int}:(rnd n f st best).length=best.length:=mA _ _ _
theorem xm (h:FOk n f) {best:List Int} (hl:best.length=(plc n).length) {i:Nat} (h0:0≤lab best i):0≤lab (rnd n f st best) i∧lab (rnd n f st best) i≤lab best i:=by
 rcases(mP (st:=st) h hl i).1 with e|⟨j,z,e,g1,g2,g3,g4,g5⟩
 ·omega
 ·obtain⟨q1,q2,_⟩:=k9 h g3
  unfold bS at g5
  omega
theorem Ax (h:FOk n f) {best:List Int} (hl:best.length=(plc n).length) {i:Nat} (hc:lab (rnd n f st (rnd n f st best)) i≠lab (rnd n f st best) i):
 ∃u,lab (rnd n f st best) u≠lab best u∧0≤lab (rnd n f st best) u∧lab (rnd n f st best) u<lab (rnd n f st (rnd n f st best)) i∧bS (rnd n f st best) i (lab (rnd n f st (rnd n f st best)) i):=by
 rcases(mP (st:=st) h (mW.trans hl) i).1 with e|⟨j,z,e,g1,g2,g3,g4,g5⟩
 ·exact absurd e hc
 ·obtain⟨q1,q2,_⟩:=k9 h g3
  refine⟨aI n z,fun he=>?_,q1,by omega,by rw[g4];exact g5⟩
  rw[Be he] at g3
  exact(mP (st:=st) h hl i).2 j z e g1 g2 g3 g5
theorem ot (h:FOk n f) {best:List Int} (hl:best.length=(plc n).length):∀(k i:Nat),lab (itr n f st (k+1) best) i≠lab (itr n f st k best) i→
 ∃L:List Nat,L.Nodup∧L.length=k+2∧∀w∈L,w<(plc n).length∧0≤lab (itr n f st (k+1) best) w∧lab (itr n f st (k+1) best) w≤lab (itr n f st (k+1) best) i
 |0,i,hc=>by
  have e1:itr n f st (0+1) best=rnd n f st best:=rfl
  rw[e1] at hc ⊢
  rcases(mP (st:=st) h hl i).1 with e|⟨j,z,e,g1,g2,g3,g4,g5⟩
  ·exact absurd e hc
  ·obtain⟨q1,q2,_⟩:=k9 h g3
   have hi:=(pb (List.mem_of_getElem? g1)).2
   have hu:=(pb (List.mem_of_getElem? g1)).1
   rw[g2] at hi
   have hm:=xm (st:=st) h hl q1
   refine⟨[i,aI n z],?_,rfl,fun w hw=>?_⟩
   ·simp only[List.nodup_cons,List.mem_singleton,List.not_mem_nil,not_false_eq_true,List.nodup_nil,and_self,and_true]
    intro e'
    rw[←e'] at q1 q2
    unfold bS at g5
    omega
   ·simp only[List.mem_cons,List.not_mem_nil,or_false] at hw
    rcases hw with rfl|rfl
    ·exact⟨hi,by omega,Int.le_refl _⟩
    ·exact⟨hu,hm.1,by omega⟩
 |k+1,i,hc=>by
  rw[mp (k+1),mp k] at hc
  obtain⟨u,hu,u0,u1,u2⟩:=Ax h ((qX _ _).trans hl) hc
  rw[←mp k] at hu u0 u1 u2
  obtain⟨L,l1,l2,l3⟩:=ot h hl k u hu
  rw[mp (k+1)]
  have hlen:(itr n f st (k+1) best).length=(plc n).length:=by rw[qX];exact hl
  refine⟨i::L,List.nodup_cons.2 ⟨fun hi=>?_,l1⟩,by simp[l2],fun w hw=>?_⟩
  ·obtain⟨_,b1,b2⟩:=l3 i hi
   unfold bS at u2
   omega
  ·rcases List.mem_cons.1 hw with rfl|hw
   ·refine⟨?_,by omega,Int.le_refl _⟩
    have:w<(rnd n f st (itr n f st (k+1) best)).length:=EJ (by omega)
    rwa [mW,hlen] at this
   ·obtain⟨b0,b1,b2⟩:=l3 w hw
    have hm:=xm (st:=st) h hlen b1
    exact⟨b0,hm.1,by omega⟩
theorem Ey (h:FOk n f) {best:List Int} (hl:best.length=(plc n).length) {k:Nat} (hk:(plc n).length≤k+1):rnd n f st (itr n f st k best)=itr n f st k best:=by
 refine zW mW fun i=>?_
 rcases Decidable.em (lab (rnd n f st (itr n f st k best)) i=lab (itr n f st k best) i) with e|e
 ·exact e
 ·exfalso
  rw[←mp] at e
  obtain⟨L,l1,l2,l3⟩:=ot h hl k i e
  have:=qm _ L l1 fun w hw=>(l3 w hw).1
  omega
theorem Em (h:FOk n f) {best:List Int} (hl:best.length=(plc n).length) (m:Nat):itr n f st (min m (plc n).length) best=itr n f st m best:=by
 rcases Nat.le_total m (plc n).length with hm|hm
 ·rw[Nat.min_eq_left hm]
 ·rw[Nat.min_eq_right hm]
  obtain⟨k,rfl⟩:∃k,m=(plc n).length+k:=⟨m-(plc n).length,by omega⟩
  rw[uH,uW (Ey h hl (by omega))]
theorem De (h:FOk n f) {best:List Int} (hl:best.length=(plc n).length) (hb:∀i,lab best i≤100000) (i:Nat):lab (rnd n f st best) i≤100000:=by
 rcases(mP (st:=st) h hl i).1 with e|⟨j,z,e,g1,g2,g3,g4,g5⟩
 ·rw[e];exact hb i
 ·obtain⟨q1,q2,q3,_⟩:=k9 h g3;omega
end
end Go.Vs
namespace Go.Vs
open Go.IntWalk
theorem Ds {fd:Fd} {n:Network} {f:Int→Int→Option Int} (hn:NetOk n) (hf:Find fd n f) {best:List Int} (hl:best.length=(plc n).length) (hb:∀i,lab best i≤100000) {st:Nat}:∀(ls:List Leg) (k:Nat) (out:List Int) (ch:Bool),n.Legs.drop k=ls→out.length=(plc n).length→
 bx G.real TE.real n fd best (plc n) (st:Int) ls (k:Int) out ch=some (iT n f st best ls (k:Int) out,ch||chg n f st best ls (k:Int) out)
 |[],k,out,ch,_,_=>by rw[bx,iT,chg,Bool.or_false]
 |z::ls,k,out,ch,hd,ho=>by
  have hlen:=hn.len
  have hk:k<n.Legs.length:=by
   have:=congrArg List.length hd
   simp at this;omega
  have hz:n.Legs[k]?=some z:=by
   have:(n.Legs.drop k)[0]?=some z:=by rw[hd];rfl
   simpa using this
  have hd2:n.Legs.drop (k+1)=ls:=by
   have:=congrArg List.tail hd
   simpa using this
  have hm:=List.mem_of_getElem? hz
  obtain⟨ha,hbz⟩:=pb hm
  have pl:=fX n
  have e1:ix (plc n) z.From=(aI n z:Int):=pW ((lH n _).2 ⟨z,hm,.inl rfl⟩)
  have e2:ix (plc n) z.To=(bI n z:Int):=pW ((lH n _).2 ⟨z,hm,.inr rfl⟩)
  have hk1:(k:Int)+1=((k+1:Nat):Int):=by omega
  rw[bx,iT,chg]
  simp only[az,tS (show(plc n).length≤4194304 by omega),e1,e2,dT,aQ,Int.toNat_natCast,bB,bc,cB,am]
  rw[ag (by omega),ar (i5 (l:=best) (by omega)),w64 (n:=(k:Int)+1) (by omega) (by omega),hk1]
  have ih:=fun o c ho=>Ds hn hf hl hb (st:=st) ls (k+1) o c hd2 ho
  by_cases h0:lab best (aI n z)<0
  ·have hv:via n f st best z (k:Int)=none:=by unfold via;rw[if_pos h0]
   rw[if_pos h0,hv]
   exact ih out ch ho
  ·rw[if_neg h0,ag (by omega)]
   have hx:=hb (aI n z)
   have hc:=hn.change
   have er:kU G.real TE.real n (lab best (aI n z)) (decide ((aI n z:Int)=(st:Int)))=rdy n (lab best (aI n z)) (decide (aI n z=st)):=by
    unfold kU rdy
    simp only[bc,am]
    rw[w64 (by omega) (by omega)]
    by_cases hs:aI n z=st
    ·rw[if_pos (by omega),if_pos (by simp[hs])]
    ·rw[if_neg (by omega),if_neg (by simp[hs])]
   rw[er,hf.call,af]
   cases hfv:f (k:Int) (rdy n (lab best (aI n z)) (decide (aI n z=st))) with
   |none=>
    have hv:via n f st best z (k:Int)=none:=by unfold via;rw[if_neg h0,hfv];rfl
    rw[hv]
    exact ih out ch ho
   |some d=>
    have hv:via n f st best z (k:Int)=some (enN n (k:Int) d):=by unfold via;rw[if_neg h0,hfv];rfl
    rw[hv]
    obtain⟨r1,r2,r3,r4⟩:=gm (n:=n) (by omega) (hf.ok hfv).1
    simp only[tbO,bd]
    rw[ag (by omega),ar (i5 (l:=out) (by omega)),tY hn r1 r2 r3 r4]
    simp only[af]
    have ho2:(out.set (bI n z) (enN n (k:Int) d)).length=(plc n).length:=by simpa using ho
    by_cases h1:lab out (bI n z)<0
    ·have hbt:bS out (bI n z) (enN n (k:Int) d):=.inl h1
     rw[if_pos h1,ag (by omega),if_pos hbt,if_pos hbt,ih _ true ho2,Bool.true_or,Bool.or_true]
    ·rw[if_neg h1,ag (by omega)]
     by_cases h2:enN n (k:Int) d<lab out (bI n z)
     ·have hbt:bS out (bI n z) (enN n (k:Int) d):=.inr h2
      rw[if_pos h2,ag (by omega),if_pos hbt,if_pos hbt,ih _ true ho2,Bool.true_or,Bool.or_true]
     ·have hbt:¬bS out (bI n z) (enN n (k:Int) d):=by unfold bS;omega
      rw[if_neg h2,if_neg hbt,if_neg hbt]
      exact ih out ch ho
theorem Dz {fd:Fd} {n:Network} {f:Int→Int→Option Int} (hn:NetOk n) (hf:Find fd n f) {st:Nat}:∀(m:Nat) (best:List Int),best.length=(plc n).length→(∀i,lab best i≤100000)→
 dv G.real TE.real n fd (plc n) (st:Int) m best=some (itr n f st m best)
 |0,best,_,_=>by rw[dv];rfl
 |m+1,best,hl,hb=>by
  have pl:=fX n
  have hlen:=hn.len
  have hok:FOk n f:=⟨hn,hf.ok⟩
  rw[dv]
  simp only[az,List.nil_append]
  rw[ag (by simp;omega),show(0:Int)=((0:Nat):Int) from rfl,Ds hn hf hl hb n.Legs 0 best false (by simp) hl,af,Bool.false_or]
  cases hc:chg n f st best n.Legs ((0:Nat):Int) best with
  |true=>
   rw[bd]
   exact Dz hn hf m (rnd n f st best) (mW.trans hl) (De hok hl hb)
  |false=>
   rw[gX]
   have e:rnd n f st best=best:=pH hc
   rw[show iT n f st best n.Legs ((0:Nat):Int) best=rnd n f st best from rfl,uW e,e]
theorem CL:∀(m:Nat) (w:List Int),w.length+m≤1000000→di G.real TE.real m w=some (w++List.replicate m (-1))
 |0,w,_=>by rw[di];simp
 |m+1,w,h=>by
  rw[di]
  simp only[az]
  rw[ag (by simp;omega),CL m _ (by simp;omega),List.append_assoc]
  rfl
def s8 (n:Network) (st:Nat) (a:Int):List Int:=(List.replicate (plc n).length (-1)).set st (max a 0)
theorem kK (n:Network) (st:Nat) (a:Int):(s8 n st a).length=(plc n).length:=by unfold s8;simp
theorem rU {n:Network} {st:Nat} (hst:st<(plc n).length) (a:Int) (i:Nat):lab (s8 n st a) i=if i=st then max a 0 else-1:=by
 unfold s8
 rw[qU (by simpa using hst)]
 by_cases h:st=i
 ·rw[if_pos h,if_pos h.symm]
 ·rw[if_neg h,if_neg (fun e=>h e.symm)]
  unfold lab
  rw[List.getD_eq_getElem?_getD,List.getElem?_replicate]
  split<;>rfl
theorem Ad {n:Network} {st:Nat} (hst:st<(plc n).length) {a:Int} (ha:a≤100000) (i:Nat):lab (s8 n st a) i≤100000:=by
 rw[rU hst];split<;>omega
def pO (n:Network) (f:Int→Int→Option Int) (s:ByteArray) (a:Int) (m:Int):List Int:=
 if s∉plc n∨100000<a∨m<0 then[] else itr n f (ixN (plc n) s) m.toNat (s8 n (ixN (plc n) s) a)
theorem GN {fd:Fd} {n:Network} {f:Int→Int→Option Int} (hn:NetOk n) (hf:Find fd n f) (s:ByteArray) (a:Int) {m:Int} (hm:m≤9223372036854775807):
 jR G.real TE.real n fd s a m=some (pO n f s a m):=by
 have pl:=fX n
 have hlen:=hn.len
 unfold jR pO
 rw[wq (by omega)]
 simp only[af,az,tS (show(plc n).length≤4194304 by omega),bB,am,fQ,bY,dT,aQ]
 by_cases h1:s∈plc n
 ·have hi:=lk h1
  rw[pW h1,if_neg (by omega)]
  by_cases h2:100000<a
  ·rw[if_pos h2,if_pos (by simp[h2])]
  ·rw[if_neg h2]
   by_cases h3:m<0
   ·rw[if_pos h3,if_pos (by simp[h3])]
   ·rw[if_neg h3,if_neg (by simp[h1,h2,h3])]
    have cn:aq 0 ((plc n).length:Int)=(plc n).length:=by unfold aq;omega
    have cm:aq 0 m=m.toNat:=by unfold aq;omega
    rw[ag (by omega),cn,CL _ _ (by simp;omega),af,List.nil_append,ag (by rw[List.length_replicate];omega),Int.toNat_natCast,ar (i5 (by rw[List.length_replicate];exact hi.1)),ag hm,cm]
    have e:(List.replicate (plc n).length (-1)).set (ixN (plc n) s) (G.real.imax a 0)=s8 n (ixN (plc n) s) a:=rfl
    rw[e,Dz hn hf _ _ (kK _ _ _) (Ad hi.1 (by omega)),af]
 ·rw[if_pos (pD.2 h1),if_pos (.inl h1)]
theorem rT (a:Int) (st:Nat):∀(ls:List ByteArray) (k:Nat) (w:List Int),k+ls.length≤4194304→w.length+ls.length≤4194304→dd G.real TE.real (st:Int) a ls (k:Int) w=some (w++(List.range' k ls.length).map fun i=>if i=st then max a 0 else-1)
 |[],k,w,_,_=>by rw[dd];simp
 |z::ls,k,w,h,h2=>by
  simp only[List.length_cons] at h h2
  have em:wN G.real TE.real a 0=max a 0:=by
   unfold wN
   simp only[bB,am]
   split<;>omega
  rw[dd]
  simp only[cB,am,az,bc,em]
  rw[w64 (by omega) (by omega),show(k:Int)+1=((k+1:Nat):Int) from by omega,ag (by simp;omega),ag (by simp;omega),rT a st ls (k+1) _ (by omega) (by simp;omega),rT a st ls (k+1) _ (by omega) (by simp;omega),List.length_cons,List.range'_succ,List.map_cons]
  by_cases hk:k=st
  ·rw[if_pos (by omega),if_pos hk];simp
  ·rw[if_neg (by omega),if_neg hk];simp
theorem Et {n:Network} (hn:NetOk n) {st:Nat} (hst:st<(plc n).length) (a:Int):kW G.real TE.real (plc n) (st:Int) a=some (s8 n st a):=by
 have pl:=fX n
 have hlen:=hn.len
 unfold kW
 rw[az,show(0:Int)=((0:Nat):Int) from rfl,rT a st (plc n) 0 [] (by omega) (by simp;omega),af,List.nil_append]
 congr 1
 refine zW (by rw[kK];simp) fun i=>?_
 rw[rU hst]
 unfold lab
 rw[List.getD_eq_getElem?_getD,List.getElem?_map]
 by_cases hi:i<(plc n).length
 ·rw[List.getElem?_range' hi];simp
 ·rw[List.getElem?_eq_none (by simp;omega)]
  simp only[Option.map_none,Option.getD_none]
  rw[if_neg (by omega)]
theorem ER {n:Network} {f:Int→Int→Option Int} (hn:NetOk n) (hf:f=fN n) {best:List Int} (hl:best.length=(plc n).length) (hb:∀i,lab best i≤100000) {st:Nat}:∀(ls:List Leg) (k:Nat) (out:List Int),n.Legs.drop k=ls→out.length=(plc n).length→
 bP G.real TE.real n (plc n) best (st:Int) ls (k:Int) out=some (iT n f st best ls (k:Int) out)
 |[],k,out,_,_=>by rw[bP,iT]
 |z::ls,k,out,hd,ho=>by
  have hlen:=hn.len
  have hk:k<n.Legs.length:=by
   have:=congrArg List.length hd
   simp at this;omega
  have hz:n.Legs[k]?=some z:=by
   have:(n.Legs.drop k)[0]?=some z:=by rw[hd];rfl
   simpa using this
  have hd2:n.Legs.drop (k+1)=ls:=by
   have:=congrArg List.tail hd
   simpa using this
  have hm:=List.mem_of_getElem? hz
  obtain⟨ha,hbz⟩:=pb hm
  have pl:=fX n
  have e1:ix (plc n) z.From=(aI n z:Int):=pW ((lH n _).2 ⟨z,hm,.inl rfl⟩)
  have e2:ix (plc n) z.To=(bI n z:Int):=pW ((lH n _).2 ⟨z,hm,.inr rfl⟩)
  have hk1:(k:Int)+1=((k+1:Nat):Int):=by omega
  rw[bP,iT]
  simp only[az,xd (show(plc n).length≤4194304 by omega),e1,e2,dT,aQ,Int.toNat_natCast,bB,bc,cB,am]
  rw[ag (by omega),ar (i5 (l:=best) (by omega)),w64 (n:=(k:Int)+1) (by omega) (by omega),hk1]
  have ih:=fun o ho=>ER hn hf hl hb (st:=st) ls (k+1) o hd2 ho
  by_cases h0:lab best (aI n z)<0
  ·have hv:via n f st best z (k:Int)=none:=by unfold via;rw[if_pos h0]
   rw[if_pos h0,hv]
   exact ih out ho
  ·rw[if_neg h0,ag (by omega)]
   have hx:=hb (aI n z)
   have hc:=hn.change
   have er:kE G.real TE.real n (lab best (aI n z)) (decide ((aI n z:Int)=(st:Int)))=rdy n (lab best (aI n z)) (decide (aI n z=st)):=by
    unfold kE rdy
    simp only[bc,am]
    rw[w64 (by omega) (by omega)]
    by_cases hs:aI n z=st
    ·rw[if_pos (by omega),if_pos (by simp[hs])]
    ·rw[if_neg (by omega),if_neg (by simp[hs])]
   rw[er,Fl hn,show fdD (pN n (k:Int) (rdy n (lab best (aI n z)) (decide (aI n z=st)))) 61 0=f (k:Int) (rdy n (lab best (aI n z)) (decide (aI n z=st))) from by rw[hf];rfl,af]
   cases hfv:f (k:Int) (rdy n (lab best (aI n z)) (decide (aI n z=st))) with
   |none=>
    have hv:via n f st best z (k:Int)=none:=by unfold via;rw[if_neg h0,hfv];rfl
    rw[hv,if_pos (show dyO none<0 by show(-1:Int)<0;omega)]
    exact ih out ho
   |some d=>
    have hv:via n f st best z (k:Int)=some (enN n (k:Int) d):=by unfold via;rw[if_neg h0,hfv];rfl
    rw[hv]
    show _=some (if bS out (bI n z) (enN n (k:Int) d) then iT n f st best ls ((k+1:Nat):Int) (out.set (bI n z) (enN n (k:Int) d)) else iT n f st best ls ((k+1:Nat):Int) out)
    obtain⟨r1,r2,r3,r4⟩:=gm (n:=n) (by omega) (((kP hn).ok (by rw[hf] at hfv;exact hfv)).1)
    rw[if_neg (show¬dyO (some d)<0 by show¬d<0;omega),show dyO (some d)=d from rfl,tQ hn r1 r2 r3 r4,af,ag (by omega),ar (i5 (l:=out) (by omega))]
    have ho2:(out.set (bI n z) (enN n (k:Int) d)).length=(plc n).length:=by simpa using ho
    by_cases h1:lab out (bI n z)<0
    ·have hbt:bS out (bI n z) (enN n (k:Int) d):=.inl h1
     rw[if_pos h1,ag (by omega),if_pos hbt,ih _ ho2]
    ·rw[if_neg h1,ag (by omega)]
     by_cases h2:enN n (k:Int) d<lab out (bI n z)
     ·have hbt:bS out (bI n z) (enN n (k:Int) d):=.inr h2
      rw[if_pos h2,ag (by omega),if_pos hbt,ih _ ho2]
     ·have hbt:¬bS out (bI n z) (enN n (k:Int) d):=by unfold bS;omega
      rw[if_neg h2,if_neg hbt]
      exact ih out ho
theorem DD {n:Network} {f:Int→Int→Option Int} (hn:NetOk n) (hf:f=fN n) {st:Nat}:∀(m k:Nat) (best:List Int),best.length=(plc n).length→(∀i,lab best i≤100000)→
 bH G.real TE.real n (plc n) (st:Int) m (k:Int) best=some (itr n f st (min m ((plc n).length-k)) best)
 |0,k,best,_,_=>by rw[bH,Nat.zero_min];rfl
 |m+1,k,best,hl,hb=>by
  have pl:=fX n
  have hlen:=hn.len
  have hok:FOk n f:=⟨hn,by rw[hf];exact(kP hn).ok⟩
  rw[bH]
  simp only[bB,bY,fQ,am,bc]
  by_cases hk:k<(plc n).length
  ·rw[if_pos (by omega)]
   unfold mY oZ
   simp only[az,List.nil_append]
   rw[ag (by simp;omega),af,show(0:Int)=((0:Nat):Int) from rfl,ER hn hf hl hb n.Legs 0 best (by simp) hl]
   simp only[af]
   rw[w64 (by omega) (by omega),show(k:Int)+1=((k+1:Nat):Int) from by omega]
   have:=DD hn hf (st:=st) m (k+1) (rnd n f st best) (mW.trans hl) (De hok hl hb)
   rw[show iT n f st best n.Legs ((0:Nat):Int) best=rnd n f st best from rfl,this,show min (m+1) ((plc n).length-k)=min m ((plc n).length-(k+1))+1 by omega]
   rfl
  ·rw[if_neg (by omega),show min (m+1) ((plc n).length-k)=0 by omega]
   rfl
theorem ba_s {n:Network} (hn:NetOk n) (ht:n.tot≤1048576) (hb:netB n=true) (s:ByteArray) (a:Int) {m:Int} (hm:m≤9223372036854775807):dE G.real TE.real n s a m=some (pO n (fN n) s a m):=by
 have pl:=fX n
 have hlen:=hn.len
 have hok:FOk n (fN n):=⟨hn,(kP hn).ok⟩
 unfold dE pO
 rw[sB (by omega),zi ht,hb]
 simp only[af,az,xd (show(plc n).length≤4194304 by omega),bB,am,bd]
 by_cases h1:s∈plc n
 ·have hi:=lk h1
  rw[pW h1,if_neg (by omega)]
  by_cases h2:100000<a
  ·rw[if_pos h2,if_pos (by simp[h2])]
  ·rw[if_neg h2]
   by_cases h3:m<0
   ·rw[if_pos h3,if_pos (by simp[h3])]
   ·rw[if_neg h3,if_neg (by simp[h1,h2,h3])]
    have cm:aq 0 m=m.toNat:=by unfold aq;omega
    rw[Et hn hi.1,af,ag hm,cm,show(0:Int)=((0:Nat):Int) from rfl,DD hn rfl m.toNat 0 _ (kK _ _ _) (Ad hi.1 (by omega)),af,Nat.sub_zero,Em hok (kK _ _ _)]
 ·rw[if_pos (pD.2 h1),if_pos (.inl h1)]
theorem ba_i {n:Network} (hn:NetOk n) (ht:n.tot≤1048576) (hb:netB n=true) (s:ByteArray) (a:Int) {m:Int} (hm:m≤9223372036854775807):dC G.real TE.real n s a m=some (pO n (fN n) s a m):=by
 unfold dC ov
 rw[tC ht,hb]
 simp only[af,az,bd]
 rw[GN hn (kP hn) s a hm,af]
def eaB (n:Network) (s p:ByteArray) (a:Int):Int:=
 if netB n=true∧s∈plc n∧a≤100000∧p∈plc n then lab (pO n (fN n) s a (plc n).length) (ixN (plc n) p) else-1
theorem vB {n:Network} {f:Int→Int→Option Int} {s:ByteArray} {a m:Int} (h1:s∈plc n) (h2:a≤100000) (h3:0≤m):(pO n f s a m).length=(plc n).length:=by
 unfold pO
 rw[if_neg (by simp[h1];omega),qX,kK]
theorem GC {n:Network} (ht:n.tot≤1048576) (hl:n.Legs.length≤1048576) (s p:ByteArray) (a:Int):fT G.real TE.real n s p a=some (eaB n s p a):=by
 have pl:=fX n
 unfold fT eaB
 rw[wq (by omega)]
 simp only[af,bY,fQ]
 cases hb:netB n with
 |false=>
  have e:dC G.real TE.real n s a ((plc n).length:Int)=some []:=by
   unfold dC;rw[tC ht,hb];rfl
  rw[e,if_neg (by simp)]
  simp only[af,az,bB,cB,am,dT]
  split
  ·rfl
  ·rfl
 |true=>
  have hn:=lu ht hb
  rw[ba_i hn ht hb s a (by omega),af]
  simp only[az,tS (show(plc n).length≤4194304 by omega),bB,cB,am,dT,aQ]
  by_cases hp:p∈plc n
  ·have hi:=lk hp
   rw[pW hp,if_neg (by omega)]
   by_cases hs:s∈plc n∧a≤100000
   ·have hla:=vB (n:=n) (f:=fN n) (m:=((plc n).length:Int)) hs.1 hs.2 (by omega)
    rw[hla,if_neg (by omega),ag (by omega),Int.toNat_natCast,ar (i5 (by omega)),if_pos (by simp[hs,hp])]
   ·have e:pO n (fN n) s a ((plc n).length:Int)=[]:=by
     unfold pO
     rw[if_pos]
     by_cases h1:s∈plc n
     ·right;left
      have:¬a≤100000:=fun h=>hs ⟨h1,h⟩
      omega
     ·exact .inl h1
    rw[e,if_pos (by simp),if_neg (fun h=>hs ⟨h.2.1,h.2.2.1⟩)]
  ·rw[if_pos (pD.2 hp),if_neg (fun h=>hp h.2.2.2)]
theorem ea_s {n:Network} (ht:n.tot≤1048576) (hl:n.Legs.length≤1048576) (s p:ByteArray) (a:Int):gQ G.real TE.real n s p a=some (eaB n s p a):=by
 have pl:=fX n
 unfold gQ eaB
 rw[sB (by omega)]
 simp only[af,az,bY,fQ]
 cases hb:netB n with
 |false=>
  have e:dE G.real TE.real n s a ((plc n).length:Int)=some []:=by
   unfold dE;rw[sB (by omega),zi ht,hb];rfl
  rw[e,if_neg (by simp)]
  simp only[af,bB,cB,am,dT]
  split
  ·rfl
  ·rfl
 |true=>
  have hn:=lu ht hb
  rw[ba_s hn ht hb s a (by omega),af]
  simp only[xd (show(plc n).length≤4194304 by omega),bB,cB,am,dT,aQ]
  by_cases hp:p∈plc n
  ·have hi:=lk hp
   rw[pW hp,if_neg (by omega)]
   by_cases hs:s∈plc n∧a≤100000
   ·have hla:=vB (n:=n) (f:=fN n) (m:=((plc n).length:Int)) hs.1 hs.2 (by omega)
    rw[hla,if_neg (by omega),ag (by omega),Int.toNat_natCast,ar (i5 (by omega)),if_pos (by simp[hs,hp])]
   ·have e:pO n (fN n) s a ((plc n).length:Int)=[]:=by
     unfold pO
     rw[if_pos]
     by_cases h1:s∈plc n
     ·right;left
      have:¬a≤100000:=fun h=>hs ⟨h1,h⟩
      omega
     ·exact .inl h1
    rw[e,if_pos (by simp),if_neg (fun h=>hs ⟨h.2.1,h.2.2.1⟩)]
  ·rw[if_pos (pD.2 hp),if_neg (fun h=>hp h.2.2.2)]
end Go.Vs
namespace Go.Vs
open Go.IntWalk
def reB (n:Network) (x:Spot) (p:ByteArray):Int:=if x.Place=p then x.At else eaB n x.Place p x.At
def byB (n:Network) (x y:Spot):Bool:=decide (0≤reB n x y.Place∧reB n x y.Place≤y.At)
theorem CC {n:Network} {f:Int→Int→Option Int} (h:FOk n f) {st:Nat}:∀(m:Nat) {best:List Int},best.length=(plc n).length→(∀i,-1≤lab best i)→∀i,-1≤lab (itr n f st m best) i
 |0,best,_,hb,i=>hb i
 |m+1,best,hl,hb,i=>CC h m (mW.trans hl) (fun j=>by
   rcases(mP (st:=st) h hl j).1 with e|⟨k,z,e,g1,g2,g3,g4,g5⟩
   ·rw[e];exact hb j
   ·obtain⟨q1,q2,q3,_⟩:=k9 h g3;omega) i
theorem EO {n:Network} {st:Nat} (a:Int) (i:Nat): -1≤lab (s8 n st a) i:=by
 by_cases hst:st<(plc n).length
 ·rw[rU hst];split<;>omega
 ·unfold s8
  rw[List.set_eq_of_length_le (by simpa using hst)]
  unfold lab
  rw[List.getD_eq_getElem?_getD,List.getElem?_replicate]
  split<;>simp
theorem ES {n:Network} (ht:n.tot≤1048576) (s p:ByteArray) (a:Int): -1≤eaB n s p a:=by
 unfold eaB
 split
 ·rename_i h
  have hn:=lu ht h.1
  unfold pO
  rw[if_neg (by simp[h.2.1];omega)]
  exact CC ⟨hn,(kP hn).ok⟩ _ (kK _ _ _) (EO a) _
 ·omega
theorem qN {n:Network} (ht:n.tot≤1048576) (hl:n.Legs.length≤1048576) (x:Spot) (p:ByteArray):bo G.real TE.real n x p=some (reB n x p):=by
 unfold bo reB
 simp only[gL,am]
 rw[ea_s ht hl,af]
 split<;>rfl
theorem by_i {n:Network} (ht:n.tot≤1048576) (hl:n.Legs.length≤1048576) (x y:Spot) (h0:0≤x.At):fJ G.real TE.real n x y=some (byB n x y):=by
 unfold fJ byB reB
 simp only[gL,am,iI,cB]
 rw[GC ht hl,af]
 by_cases h:x.Place=y.Place
 ·rw[if_pos h,if_pos h]
  congr 1
  simp only[decide_eq_decide]
  omega
 ·rw[if_neg h,if_neg h]
  have hg:=ES ht x.Place y.Place x.At
  by_cases h1:eaB n x.Place y.Place x.At= -1
  ·rw[if_pos h1]
   congr 1
   simp only[Bool.false_eq,decide_eq_false_iff_not]
   omega
  ·rw[if_neg h1]
   congr 1
   simp only[decide_eq_decide]
   omega
def cfB (n:Network) (a b:Scan):Bool:=
 scB n a&&(scB n b&&(decide (a.Thing=b.Thing)&&(!decide (0≤bt G.real TE.real a b)&&(!decide (a.Kind=4)&&
  (if a.Kind=3∧b.Kind=2∧a.Trip.Leg=b.Trip.Leg∧a.Trip.Day=b.Trip.Day then true else byB n (bhB n a) (bfB n b))))))
theorem Cj {n:Network} (ht:n.tot≤1048576) {s:Scan} (h:scB n s=true):s.At≤(bhB n s).At∧0≤(bhB n s).At∧(bhB n s).At≤100000:=by
 have hk:=iX h
 have htm:=hk.time
 unfold bhB
 rw[if_pos h]
 by_cases k3:s.Kind=3
 ·rw[if_pos k3]
  obtain⟨hn,_,r1,r2,r3,r4⟩:=dg ht hk (.inl k3)
  obtain⟨q1,q2,q3,q4⟩:=nF hn r1 r2 r3 r4
  have:=(hk.load k3).2.2
  show s.At≤enN n s.Trip.Leg s.Trip.Day∧0≤enN n s.Trip.Leg s.Trip.Day∧enN n s.Trip.Leg s.Trip.Day≤100000
  omega
 ·rw[if_neg k3]
  show s.At≤s.At∧0≤s.At∧s.At≤100000
  omega
theorem cf_i {n:Network} (ht:n.tot≤1048576) (hl:n.Legs.length≤1048576) (a b:Scan):iL G.real TE.real n a b=some (cfB n a b):=by
 unfold iL cfB
 rw[show(Scan.mk a.Thing a.At a.Kind a.Place (Trip.mk a.Trip.Leg a.Trip.Day))=a from rfl,show(Scan.mk b.Thing b.At b.Kind b.Place (Trip.mk b.Trip.Leg b.Trip.Day))=b from rfl,Bp ht,Bp ht,Gt ht,GT ht]
 cases ha:scB n a with
 |false=>rfl
 |true=>
  cases hb:scB n b with
  |false=>rfl
  |true=>
   simp only[af,bd,az,cB,iI,tR,am,Bool.true_and]
   rw[by_i ht hl _ _ (Cj ht ha).2.1]
   by_cases h1:a.Thing=b.Thing
   ·rw[if_pos h1,decide_eq_true h1,Bool.true_and]
    by_cases h2:0≤bt G.real TE.real a b
    ·rw[if_pos h2,decide_eq_true h2];rfl
    ·rw[if_neg h2,decide_eq_false h2,Bool.not_false,Bool.true_and]
     by_cases h3:a.Kind=4
     ·rw[if_pos h3,decide_eq_true h3];rfl
     ·rw[if_neg h3,decide_eq_false h3,Bool.not_false,Bool.true_and]
      by_cases h4:b.Kind=2
      ·rw[if_pos h4]
       by_cases h5:a.Kind=3
       ·rw[if_pos h5]
        by_cases h6:a.Trip.Leg=b.Trip.Leg∧a.Trip.Day=b.Trip.Day
        ·rw[if_pos (c:=a.Kind=3∧_) ⟨h5,h4,h6.1,h6.2⟩,show(List.all [decide (a.Trip.Leg=b.Trip.Leg),decide (a.Trip.Day=b.Trip.Day)] id)=true from by simp[h6.1,h6.2]];rfl
        ·rw[if_neg (c:=a.Kind=3∧_) (fun h=>h6 h.2.2),show(List.all [decide (a.Trip.Leg=b.Trip.Leg),decide (a.Trip.Day=b.Trip.Day)] id)=false from by
          rw[Bool.eq_false_iff];intro h;simp at h;exact h6 h];rfl
       ·rw[if_neg h5,if_neg (c:=a.Kind=3∧_) (fun h=>h5 h.1)];rfl
      ·rw[if_neg h4,if_neg (c:=a.Kind=3∧_) (fun h=>h4 h.2.1)];rfl
   ·rw[if_neg h1,decide_eq_false h1];rfl
theorem cf_s {n:Network} (ht:n.tot≤1048576) (hl:n.Legs.length≤1048576) (a b:Scan):iG G.real TE.real n a b=some (cfB n a b):=by
 have hby:∀x y:Spot,(cl (some (reB n x y.Place)) fun x6=>br (decide (0≤x6)) (some (decide (x6≤y.At))) (some false))=some (byB n x y):=fun x y=>by
  unfold byB
  rw[af,am]
  by_cases h:0≤reB n x y.Place
  ·rw[if_pos h];congr 1;simp[h]
  ·rw[if_neg h];congr 1;simp[h]
 unfold iG cfB
 rw[show(Scan.mk a.Thing a.At a.Kind a.Place (Trip.mk a.Trip.Leg a.Trip.Day))=a from rfl,show(Scan.mk b.Thing b.At b.Kind b.Place (Trip.mk b.Trip.Leg b.Trip.Day))=b from rfl,Aq ht,Aq ht,F5 ht,HQ ht,E3]
 cases ha:scB n a with
 |false=>rfl
 |true=>
  cases hb:scB n b with
  |false=>rfl
  |true=>
   rw[af,af,bd,bd]
   simp only[af,az,cB,iI,tR,Bool.true_and,qN ht hl]
   have hb2:=hby (bhB n a) (bfB n b)
   rw[af] at hb2
   rw[hb2]
   simp only[am]
   by_cases h1:a.Thing=b.Thing
   ·rw[if_pos h1,decide_eq_true h1,Bool.true_and]
    by_cases h3:a.Kind=4
    ·rw[if_pos h3,decide_eq_true h3];simp
    ·rw[if_neg h3,decide_eq_false h3,Bool.not_false,Bool.true_and]
     by_cases h2:0≤bt G.real TE.real a b
     ·rw[if_pos h2,decide_eq_true h2];rfl
     ·rw[if_neg h2,decide_eq_false h2,Bool.not_false,Bool.true_and]
      by_cases h5:a.Kind=3
      ·rw[if_pos h5]
       by_cases h4:b.Kind=2
       ·rw[if_pos h4]
        by_cases h6:a.Trip.Leg=b.Trip.Leg∧a.Trip.Day=b.Trip.Day
        ·rw[if_pos (c:=a.Kind=3∧_) ⟨h5,h4,h6.1,h6.2⟩,show(List.all [decide (a.Trip.Leg=b.Trip.Leg),decide (a.Trip.Day=b.Trip.Day)] id)=true from by simp[h6.1,h6.2]];rfl
        ·rw[if_neg (c:=a.Kind=3∧_) (fun h=>h6 h.2.2),show(List.all [decide (a.Trip.Leg=b.Trip.Leg),decide (a.Trip.Day=b.Trip.Day)] id)=false from by
          rw[Bool.eq_false_iff];intro h;simp at h;exact h6 h];rfl
       ·rw[if_neg h4,if_neg (c:=a.Kind=3∧_) (fun h=>h4 h.2.1)]
      ·rw[if_neg h5,if_neg (c:=a.Kind=3∧_) (fun h=>h5 h.1)]
   ·rw[if_neg h1,decide_eq_false h1];rfl
end Go.Vs
