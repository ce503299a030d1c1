/- Part of the proofs of this seat's laws: Ways. No condition. -/
import Derived.Test.YtolplompnmammaaGreatDoorNet
import Derived.Test.YtolplompnmammaaGreatDoorLac
import Derived.Test.YtolplompnmammaaGreatDoorLab
import Derived.Test.YtolplompnmammaaGreatDoorLad
import Derived.Test.YtolplompnmammaaGreatDoorLaa
set_option linter.unusedVariables false
set_option linter.unusedSimpArgs false
set_option linter.unusedSectionVars false
namespace Go.Vs
open Go.IntWalk
def scB (n:Network) (s:Scan):Bool:=
 netB n&&(decide (1≤s.Thing∧s.Thing≤9999)&&(decide (0≤s.At∧s.At≤100000)&&
 (if s.Kind=1∨s.Kind=4 then decide (s.Place∈plc n)&&decide (s.Trip.Leg=0∧s.Trip.Day=0)
  else if s.Kind=3 then decide (s.Place=str_k0)&&(runsB n s.Trip.Leg s.Trip.Day&&decide (s.At≤stN n s.Trip.Leg s.Trip.Day))
  else if s.Kind=2 then decide (s.Place=str_k0)&&(runsB n s.Trip.Leg s.Trip.Day&&decide (enN n s.Trip.Leg s.Trip.Day≤s.At)) else false)))
theorem zn {n:Network} (ht:n.tot≤1048576) (s:Scan):fm G.real TE.real n s=some (scB n s):=by
 unfold fm scB
 rw[sk ht]
 cases hb:netB n with
 |false=>rfl
 |true=>
  have hn:=gZ ht hb
  have hl:=hn.len
  have pl:=dp n
  have htr:∀q:Trip,iL G.real TE.real n q=some (runsB n q.Leg q.Day):=fun q=>by rw[ES ht];unfold fw;rw[hb];rfl
  simp only[ag,cP,bd,lg,ao,eu,jU,fk,vJ,Bool.true_and,htr]
  rw[vr (by omega)]
  simp only[ag,se (show(plc n).length≤4194304 by omega),nU]
  by_cases h1:1≤s.Thing∧s.Thing≤9999
  ·rw[if_pos h1,decide_eq_true h1,Bool.true_and]
   by_cases h2:0≤s.At∧s.At≤100000
   ·rw[if_pos h2,decide_eq_true h2,Bool.true_and]
    have hal:(List.all [decide (s.Trip.Leg=0),decide (s.Trip.Day=0)] id)=decide (s.Trip.Leg=0∧s.Trip.Day=0):=by simp
    by_cases k1:s.Kind=1
    ·rw[if_pos k1,if_pos (c:=s.Kind=1∨s.Kind=4) (.inl k1),hal]
     by_cases hp:s.Place∈plc n
     ·rw[if_pos hp,decide_eq_true hp];rfl
     ·rw[if_neg hp,decide_eq_false hp];rfl
    ·rw[if_neg k1]
     by_cases k4:s.Kind=4
     ·rw[if_pos k4,if_pos (c:=s.Kind=1∨s.Kind=4) (.inr k4),hal]
      by_cases hp:s.Place∈plc n
      ·rw[if_pos hp,decide_eq_true hp];rfl
      ·rw[if_neg hp,decide_eq_false hp];rfl
     ·rw[if_neg k4,if_neg (c:=s.Kind=1∨s.Kind=4) (fun h=>h.elim k1 k4)]
      by_cases k3:s.Kind=3
      ·rw[if_pos k3,if_pos k3]
       by_cases hp:s.Place=str_k0
       ·rw[if_pos hp,decide_eq_true hp,Bool.true_and]
        cases hr:runsB n s.Trip.Leg s.Trip.Day with
        |false=>rfl
        |true=>
         obtain⟨r1,r2,r3,r4⟩:=dM (n:=n) (by omega) hr
         rw[cP,iU hn r1 r2 r3 r4];rfl
       ·rw[if_neg hp,decide_eq_false hp];rfl
      ·rw[if_neg k3,if_neg k3]
       by_cases k2:s.Kind=2
       ·rw[if_pos k2,if_pos k2]
        by_cases hp:s.Place=str_k0
        ·rw[if_pos hp,decide_eq_true hp,Bool.true_and]
         cases hr:runsB n s.Trip.Leg s.Trip.Day with
         |false=>rfl
         |true=>
          obtain⟨r1,r2,r3,r4⟩:=dM (n:=n) (by omega) hr
          rw[cP,sR hn r1 r2 r3 r4];rfl
        ·rw[if_neg hp,decide_eq_false hp];rfl
       ·rw[if_neg k2,if_neg k2]
   ·rw[if_neg h2,decide_eq_false h2];rfl
  ·rw[if_neg h1,decide_eq_false h1];rfl
theorem sc_s {n:Network} (ht:n.tot≤1048576) (s:Scan):kz G.real TE.real n s=some (scB n s):=by
 unfold kz scB
 rw[wh ht]
 cases hb:netB n with
 |false=>rfl
 |true=>
  have hn:=gZ ht hb
  have hl:=hn.len
  have pl:=dp n
  have htr:∀q:Trip,fv G.real TE.real n q=some (runsB n q.Leg q.Day):=fun q=>by rw[tQ ht];unfold fw;rw[hb];rfl
  simp only[ag,cP,bd,nV,ao,eu,jU,fk,vJ,Bool.true_and,htr]
  rw[sP (by omega)]
  simp only[ag,p8 (show(plc n).length≤4194304 by omega),nU]
  by_cases h1:1≤s.Thing∧s.Thing≤9999
  ·rw[if_pos h1,decide_eq_true h1,Bool.true_and]
   by_cases h2:0≤s.At∧s.At≤100000
   ·rw[if_pos h2,decide_eq_true h2,Bool.true_and]
    have hal:(List.all [decide (s.Trip.Leg=0),decide (s.Trip.Day=0)] id)=decide (s.Trip.Leg=0∧s.Trip.Day=0):=by simp
    by_cases k1:s.Kind=1
    ·rw[if_pos k1,if_pos (c:=s.Kind=1∨s.Kind=4) (.inl k1),hal]
     by_cases hp:s.Place∈plc n
     ·rw[if_pos hp,decide_eq_true hp];rfl
     ·rw[if_neg hp,decide_eq_false hp];rfl
    ·rw[if_neg k1]
     by_cases k4:s.Kind=4
     ·rw[if_pos k4,if_pos (c:=s.Kind=1∨s.Kind=4) (.inr k4),hal]
      by_cases hp:s.Place∈plc n
      ·rw[if_pos hp,decide_eq_true hp];rfl
      ·rw[if_neg hp,decide_eq_false hp];rfl
     ·rw[if_neg k4,if_neg (c:=s.Kind=1∨s.Kind=4) (fun h=>h.elim k1 k4)]
      by_cases k3:s.Kind=3
      ·rw[if_pos k3,if_pos k3]
       by_cases hp:s.Place=str_k0
       ·rw[if_pos hp,decide_eq_true hp,Bool.true_and]
        cases hr:runsB n s.Trip.Leg s.Trip.Day with
        |false=>rfl
        |true=>
         obtain⟨r1,r2,r3,r4⟩:=dM (n:=n) (by omega) hr
         rw[cP,lw hn r1 r2 r3 r4];rfl
       ·rw[if_neg hp,decide_eq_false hp];rfl
      ·rw[if_neg k3,if_neg k3]
       by_cases k2:s.Kind=2
       ·rw[if_pos k2,if_pos k2]
        by_cases hp:s.Place=str_k0
        ·rw[if_pos hp,decide_eq_true hp,Bool.true_and]
         cases hr:runsB n s.Trip.Leg s.Trip.Day with
         |false=>rfl
         |true=>
          obtain⟨r1,r2,r3,r4⟩:=dM (n:=n) (by omega) hr
          rw[cP,wm hn r1 r2 r3 r4];rfl
        ·rw[if_neg hp,decide_eq_false hp];rfl
       ·rw[if_neg k2,if_neg k2]
   ·rw[if_neg h2,decide_eq_false h2];rfl
  ·rw[if_neg h1,decide_eq_false h1];rfl
structure ScOk (n:Network) (s:Scan):Prop where
 net:netB n=true
 thing:1≤s.Thing∧s.Thing≤9999
 time:0≤s.At∧s.At≤100000
 kind:s.Kind=1∨s.Kind=2∨s.Kind=3∨s.Kind=4
 at_:s.Kind=1∨s.Kind=4→s.Place∈plc n∧s.Trip.Leg=0∧s.Trip.Day=0
 load:s.Kind=3→s.Place=str_k0∧runsB n s.Trip.Leg s.Trip.Day=true∧s.At≤stN n s.Trip.Leg s.Trip.Day
 drop:s.Kind=2→s.Place=str_k0∧runsB n s.Trip.Leg s.Trip.Day=true∧enN n s.Trip.Leg s.Trip.Day≤s.At
theorem lU {n:Network} {s:Scan} (h:scB n s=true):ScOk n s:=by
 unfold scB at h
 simp only[Bool.and_eq_true,decide_eq_true_eq] at h
 obtain⟨h1,h2,h3,h4⟩:=h
 by_cases k1:s.Kind=1∨s.Kind=4
 ·rw[if_pos k1] at h4
  simp only[Bool.and_eq_true,decide_eq_true_eq] at h4
  exact⟨h1,h2,h3,by omega,fun _=>h4,fun h=>by omega,fun h=>by omega⟩
 ·rw[if_neg k1] at h4
  by_cases k3:s.Kind=3
  ·rw[if_pos k3] at h4
   simp only[Bool.and_eq_true,decide_eq_true_eq] at h4
   exact⟨h1,h2,h3,by omega,fun h=>absurd h k1,fun _=>h4,fun h=>by omega⟩
  ·rw[if_neg k3] at h4
   by_cases k2:s.Kind=2
   ·rw[if_pos k2] at h4
    simp only[Bool.and_eq_true,decide_eq_true_eq] at h4
    exact⟨h1,h2,h3,by omega,fun h=>absurd h k1,fun h=>absurd h k3,fun _=>h4⟩
   ·rw[if_neg k2] at h4;cases h4
theorem gc {n:Network} (ht:n.tot≤1048576) {s:Scan} (h:ScOk n s) (hk:s.Kind=3∨s.Kind=2):NetOk n∧runsB n s.Trip.Leg s.Trip.Day=true∧0≤s.Trip.Leg∧s.Trip.Leg<n.Legs.length∧0≤s.Trip.Day∧s.Trip.Day≤60:=by
 have hn:=gZ ht h.net
 have hl:=hn.len
 have hr:runsB n s.Trip.Leg s.Trip.Day=true:=by
  rcases hk with hk|hk
  ·exact(h.load hk).2.1
  ·exact(h.drop hk).2.1
 obtain⟨r1,r2,r3,r4⟩:=dM (n:=n) (by omega) hr
 exact⟨hn,hr,r1,r2,r3,r4⟩
def plB (n:Network) (s:Scan):ByteArray:=if scB n s=true then(if s.Kind=3 then(ej n s.Trip.Leg).From else if s.Kind=2 then(ej n s.Trip.Leg).To else s.Place) else str_k0
def bhB (n:Network) (s:Scan):Spot:=if scB n s=true then(if s.Kind=3 then⟨(ej n s.Trip.Leg).To,enN n s.Trip.Leg s.Trip.Day⟩ else⟨plB n s,s.At⟩) else⟨.empty,0⟩
def bfB (n:Network) (s:Scan):Spot:=if scB n s=true then(if s.Kind=3∨s.Kind=2 then⟨(ej n s.Trip.Leg).From,stN n s.Trip.Leg s.Trip.Day⟩ else⟨s.Place,s.At⟩) else⟨.empty,0⟩
theorem pl_i {n:Network} (ht:n.tot≤1048576) (s:Scan):jC G.real TE.real n s=some (plB n s):=by
 unfold jC plB
 rw[zn ht]
 cases hb:scB n s with
 |false=>simp
 |true=>
  have hk:=lU hb
  simp only[ag,cP,eu,ao,bS,if_true]
  by_cases k3:s.Kind=3
  ·obtain⟨_,_,r1,r2,_⟩:=gc ht hk (.inl k3)
   rw[if_pos k3,if_pos k3,ak r1,aw (ec r1 r2)]
  ·rw[if_neg k3,if_neg k3]
   by_cases k2:s.Kind=2
   ·obtain⟨_,_,r1,r2,_⟩:=gc ht hk (.inr k2)
    rw[if_pos k2,if_pos k2,ak r1,aw (ec r1 r2)]
   ·rw[if_neg k2,if_neg k2]
theorem Fg {n:Network} (ht:n.tot≤1048576) (s:Scan):bu G.real TE.real n s=some (bhB n s):=by
 unfold bu bhB
 rw[zn ht,pl_i ht]
 cases hb:scB n s with
 |false=>simp
 |true=>
  have hk:=lU hb
  simp only[ag,cP,eu,ao,bS,if_true]
  by_cases k3:s.Kind=3
  ·obtain⟨hn,_,r1,r2,r3,r4⟩:=gc ht hk (.inl k3)
   rw[if_pos k3,if_pos k3,ak r1,aw (ec r1 r2),sR hn r1 r2 r3 r4];rfl
  ·rw[if_neg k3,if_neg k3]
theorem Gj {n:Network} (ht:n.tot≤1048576) (s:Scan):bw G.real TE.real n s=some (bfB n s):=by
 unfold bw bfB
 rw[zn ht]
 cases hb:scB n s with
 |false=>simp
 |true=>
  have hk:=lU hb
  simp only[ag,cP,eu,ao,bS,if_true]
  by_cases k3:s.Kind=3
  ·obtain⟨hn,_,r1,r2,r3,r4⟩:=gc ht hk (.inl k3)
   rw[if_pos k3,if_pos (.inl k3),ak r1,aw (ec r1 r2),iU hn r1 r2 r3 r4];rfl
  ·rw[if_neg k3]
   by_cases k2:s.Kind=2
   ·obtain⟨hn,_,r1,r2,r3,r4⟩:=gc ht hk (.inr k2)
    rw[if_pos k2,if_pos (.inr k2),ak r1,aw (ec r1 r2),iU hn r1 r2 r3 r4];rfl
   ·rw[if_neg k2,if_neg (fun h=>h.elim k3 k2)]
end Go.Vs
namespace Go.Vs
open Go.IntWalk
def lab (l:List Int) (i:Nat):Int:=l.getD i (-1)
theorem fC {l:List Int} {i:Nat} (h:i<l.length):l[i]?=some (lab l i):=by
 unfold lab
 rw[List.getD_eq_getElem?_getD,List.getElem?_eq_getElem h];rfl
theorem pF {l:List Int} {i j:Nat} {x:Int} (h:i<l.length):lab (l.set i x) j=if i=j then x else lab l j:=by
 unfold lab
 rw[List.getD_eq_getElem?_getD,List.getD_eq_getElem?_getD,List.getElem?_set]
 by_cases e:i=j
 ·subst e;simp[h]
 ·simp[e]
def aI (n:Network) (z:Leg):Nat:=ixN (plc n) z.From
def bI (n:Network) (z:Leg):Nat:=ixN (plc n) z.To
def rdy (n:Network) (x:Int) (first:Bool):Int:=if first=true then x else x+n.Change
def via (n:Network) (f:Int→Int→Option Int) (st:Nat) (best:List Int) (z:Leg) (v:Int):Option Int:=
 if lab best (aI n z)<0 then none else(f v (rdy n (lab best (aI n z)) (decide (aI n z=st)))).map (enN n v)
def bM (out:List Int) (b:Nat) (e:Int):Prop:=lab out b<0∨e<lab out b
instance (out:List Int) (b:Nat) (e:Int):Decidable (bM out b e):=inferInstanceAs (Decidable (_∨_))
def g0 (n:Network) (f:Int→Int→Option Int) (st:Nat) (best:List Int):List Leg→Int→List Int→List Int
 |[],_,out=>out
 |z::ls,v,out=>match via n f st best z v with
  |none=>g0 n f st best ls (v+1) out
  |some e=>if bM out (bI n z) e then g0 n f st best ls (v+1) (out.set (bI n z) e) else g0 n f st best ls (v+1) out
def chg (n:Network) (f:Int→Int→Option Int) (st:Nat) (best:List Int):List Leg→Int→List Int→Bool
 |[],_,_=>false
 |z::ls,v,out=>match via n f st best z v with
  |none=>chg n f st best ls (v+1) out
  |some e=>if bM out (bI n z) e then true else chg n f st best ls (v+1) out
theorem od {n:Network} {f:Int→Int→Option Int} {st:Nat} {best:List Int}:∀{ls:List Leg} {v:Int} {out:List Int},chg n f st best ls v out=false→g0 n f st best ls v out=out
 |[],_,_,_=>rfl
 |z::ls,v,out,h=>by
  unfold chg at h
  unfold g0
  split at h
  ·exact od h
  ·split at h
   ·cases h
   ·rename_i hb;simp only[if_neg hb];exact od h
def rnd (n:Network) (f:Int→Int→Option Int) (st:Nat) (best:List Int):List Int:=g0 n f st best n.Legs 0 best
def itr (n:Network) (f:Int→Int→Option Int) (st:Nat):Nat→List Int→List Int
 |0,best=>best
 |m+1,best=>itr n f st m (rnd n f st best)
theorem tY {n:Network} {f:Int→Int→Option Int} {st:Nat} {best:List Int} (h:rnd n f st best=best):∀m,itr n f st m best=best
 |0=>rfl
 |m+1=>by rw[itr,h,tY h m]
theorem tP {n:Network} {f:Int→Int→Option Int} {st:Nat}:∀(a b:Nat) (best:List Int),itr n f st (a+b) best=itr n f st b (itr n f st a best)
 |0,b,best=>by rw[Nat.zero_add];rfl
 |a+1,b,best=>by rw[show a+1+b=(a+b)+1 by omega,itr,itr,tP a b]
theorem gU {n:Network} {f:Int→Int→Option Int} {st:Nat} (m:Nat) (best:List Int):itr n f st (m+1) best=rnd n f st (itr n f st m best):=tP m 1 best
theorem lq {n:Network} {f:Int→Int→Option Int} {st:Nat} {best:List Int}:∀(ls:List Leg) (v:Int) (out:List Int),(g0 n f st best ls v out).length=out.length
 |[],_,_=>rfl
 |z::ls,v,out=>by
  unfold g0
  split
  ·exact lq ls _ _
  ·split
   ·rw[lq ls];simp
   ·exact lq ls _ _
theorem iW {n:Network} {f:Int→Int→Option Int} {st:Nat}:∀(m:Nat) (best:List Int),(itr n f st m best).length=best.length
 |0,_=>rfl
 |m+1,best=>by rw[itr,iW m,rnd,lq]
theorem wB {n:Network} {f:Int→Int→Option Int} {st:Nat} {best:List Int} (hb:∀z∈n.Legs,bI n z<best.length) (he:∀z v e,via n f st best z v=some e→0≤e):∀(ls:List Leg) (k:Nat) (out:List Int),n.Legs.drop k=ls→out.length=best.length→∀i,
 (lab (g0 n f st best ls (k:Int) out) i=lab out i∨∃j z e,n.Legs[j]?=some z∧k≤j∧bI n z=i∧via n f st best z (j:Int)=some e∧lab (g0 n f st best ls (k:Int) out) i=e∧bM out i e)∧
 (∀j z e,n.Legs[j]?=some z→k≤j→bI n z=i→via n f st best z (j:Int)=some e→¬bM (g0 n f st best ls (k:Int) out) i e)
 |[],k,out,hd,hl,i=>by
  refine⟨.inl rfl,fun j z e h1 h2 _ _=>?_⟩
  have:=List.drop_eq_nil_iff.1 hd
  rw[List.getElem?_eq_none (by omega)] at h1
  cases h1
 |z::ls,k,out,hd,hl,i=>by
  have hk:k<n.Legs.length:=by
   have:=congrArg List.length hd
   simp at this;omega
  have hz:n.Legs[k]?=some z:=by
   have:(n.Legs.drop k)[0]?=some z:=by rw[hd];rfl
   simpa using this
  have hd2:n.Legs.drop (k+1)=ls:=by
   have:=congrArg List.tail hd
   simpa using this
  have hbz:=hb z (List.mem_of_getElem? hz)
  have hk1:(k:Int)+1=((k+1:Nat):Int):=by omega
  have other:∀(o:List Int),o.length=best.length→(∀e,via n f st best z (k:Int)=some e→bI n z=i→¬bM o i e)→(∀e,bM o i e→bM out i e)→(lab o i=lab out i∨∃e,bI n z=i∧via n f st best z (k:Int)=some e∧lab o i=e∧bM out i e)→
   (lab (g0 n f st best ls ((k+1:Nat):Int) o) i=lab out i∨∃j z e,n.Legs[j]?=some z∧k≤j∧bI n z=i∧via n f st best z (j:Int)=some e∧lab (g0 n f st best ls ((k+1:Nat):Int) o) i=e∧bM out i e)∧
   (∀j z e,n.Legs[j]?=some z→k≤j→bI n z=i→via n f st best z (j:Int)=some e→¬bM (g0 n f st best ls ((k+1:Nat):Int) o) i e):=by
   intro o ho h1 h2 h3
   obtain⟨a1,a2⟩:=wB hb he ls (k+1) o hd2 ho i
   refine⟨?_,fun j z' e g1 g2 g3 g4=>?_⟩
   ·rcases a1 with a1|⟨j,z',e,g1,g2,g3,g4,g5,g6⟩
    ·rw[a1]
     rcases h3 with h3|⟨e,h3,h4,h5,h6⟩
     ·exact .inl h3
     ·exact .inr ⟨k,z,e,hz,Nat.le_refl _,h3,h4,h5,h6⟩
    ·exact .inr ⟨j,z',e,g1,by omega,g3,g4,g5,h2 e g6⟩
   ·by_cases hj:j=k
    ·subst hj
     rw[hz] at g1
     cases g1
     have hnb:=h1 e g4 g3
     have h0:=he _ _ _ g4
     rcases a1 with a1|⟨j,z',e',q1,q2,q3,q4,q5,q6⟩
     ·unfold bM at hnb ⊢;rw[a1];exact hnb
     ·have h0':=he _ _ _ q4
      unfold bM at hnb q6 ⊢
      rw[q5];omega
    ·exact a2 j z' e g1 (by omega) g3 g4
  unfold g0
  split
  ·rename_i hv
   rw[hk1]
   exact other out hl (fun e h=>by rw[hv] at h;cases h) (fun _ h=>h) (.inl rfl)
  ·rename_i e hv
   have h0:=he _ _ _ hv
   rw[hk1]
   split
   ·rename_i hbt
    refine other (out.set (bI n z) e) (by simpa using hl) (fun e' h1 h2=>?_) (fun e' h=>?_) ?_
    ·rw[hv] at h1;cases h1
     unfold bM
     rw[pF (by omega),if_pos h2];omega
    ·unfold bM at h ⊢
     rw[pF (by omega)] at h
     split at h
     ·rename_i hbi
      subst hbi
      unfold bM at hbt
      omega
     ·exact h
    ·rw[pF (by omega)]
     by_cases hbi:bI n z=i
     ·rw[if_pos hbi];subst hbi;exact .inr ⟨e,rfl,hv,rfl,hbt⟩
     ·rw[if_neg hbi];exact .inl rfl
   ·rename_i hbt
    refine other out hl (fun e' h1 h2=>?_) (fun _ h=>h) (.inl rfl)
    rw[hv] at h1;cases h1
    subst h2
    exact hbt
end Go.Vs
namespace Go.Vs
open Go.IntWalk
theorem pk:∀(m:Nat) (L:List Nat),L.Nodup→(∀w∈L,w<m)→L.length≤m
 |0,L,_,h=>by
  cases L with
  |nil=>simp
  |cons x l=>have:=h x (by simp);omega
 |m+1,L,hn,h=>by
  have h1:=pk m (L.erase m) (hn.erase m) (fun w hw=>by
   have hw2:=List.mem_of_mem_erase hw
   have:=h w hw2
   have hne:w≠m:=fun e=>by
    subst e
    exact(List.Nodup.not_mem_erase hn) hw
   omega)
  have h2:=List.length_erase_le (a:=m) (l:=L)
  by_cases hm:m∈L
  ·rw[List.length_erase_of_mem hm] at h1;omega
  ·rw[List.erase_of_not_mem hm] at h1;omega
theorem yN {a b:List Int} (hl:a.length=b.length) (h:∀i,lab a i=lab b i):a=b:=by
 refine List.ext_getElem? fun i=>?_
 by_cases hi:i<a.length
 ·rw[fC hi,fC (by omega),h]
 ·rw[List.getElem?_eq_none (by omega),List.getElem?_eq_none (by omega)]
theorem CZ {l:List Int} {i:Nat} (h:0≤lab l i):i<l.length:=by
 rcases Nat.lt_or_ge i l.length with hi|hi
 ·exact hi
 ·exfalso
  unfold lab at h
  rw[List.getD_eq_getElem?_getD,List.getElem?_eq_none hi] at h
  simp at h
section
variable {n:Network} {f:Int→Int→Option Int} {st:Nat}
theorem lx {z:Leg} (hz:z∈n.Legs):aI n z<(plc n).length∧bI n z<(plc n).length:=
 ⟨(eQ ((e8 n _).2 ⟨z,hz,.inl rfl⟩)).1,(eQ ((e8 n _).2 ⟨z,hz,.inr rfl⟩)).1⟩
structure FOk (n:Network) (f:Int→Int→Option Int):Prop where
 net:NetOk n
 ok:∀{l a d},f l a=some d→runsB n l d=true∧a≤stN n l d
theorem jr (h:FOk n f) {best:List Int} {z:Leg} {v e:Int} (hv:via n f st best z v=some e):0≤lab best (aI n z)∧lab best (aI n z)<e∧e≤92159∧∃d,f v (rdy n (lab best (aI n z)) (decide (aI n z=st)))=some d∧e=enN n v d:=by
 unfold via at hv
 split at hv
 ·cases hv
 ·rename_i h0
  simp only[Option.map_eq_some_iff] at hv
  obtain⟨d,h1,rfl⟩:=hv
  obtain⟨h2,h3⟩:=h.ok h1
  have hl:=h.net.len
  obtain⟨r1,r2,r3,r4⟩:=dM (n:=n) (by omega) h2
  obtain⟨q1,q2,q3,q4⟩:=mo h.net r1 r2 r3 r4
  have hc:=h.net.change
  have hr:lab best (aI n z)≤rdy n (lab best (aI n z)) (decide (aI n z=st)):=by unfold rdy;split<;>omega
  exact⟨by omega,by omega,q4,d,h1,rfl⟩
theorem sC {b1 b2:List Int} {z:Leg} (h:lab b1 (aI n z)=lab b2 (aI n z)) (v:Int):via n f st b1 z v=via n f st b2 z v:=by unfold via;rw[h]
theorem i5 (h:FOk n f) {best:List Int} (hl:best.length=(plc n).length) (i:Nat):
 (lab (rnd n f st best) i=lab best i∨∃(j:Nat) (z:Leg) (e:Int),n.Legs[j]?=some z∧bI n z=i∧via n f st best z (j:Int)=some e∧lab (rnd n f st best) i=e∧bM best i e)∧
 (∀(j:Nat) (z:Leg) (e:Int),n.Legs[j]?=some z→bI n z=i→via n f st best z (j:Int)=some e→¬bM (rnd n f st best) i e):=by
 obtain⟨a1,a2⟩:=wB (n:=n) (f:=f) (st:=st) (best:=best) (fun z hz=>by rw[hl];exact(lx hz).2) (fun z v e hv=>by
  obtain⟨q1,q2,_⟩:=jr h hv;omega) n.Legs 0 best (by simp) rfl i
 refine⟨?_,fun j z e h1 h2 h3=>a2 j z e h1 (by omega) h2 h3⟩
 rcases a1 with a1|⟨j,z,e,g1,g2,g3,g4,g5,g6⟩
 ·exact .inl a1
 ·exact .inr ⟨j,z,e,g1,g3,g4,g5,g6⟩
theorem kb {best:List Int}:(rnd n f st best).length=best.length:=lq _ _ _
theorem vX (h:FOk n f) {best:List Int} (hl:best.length=(plc n).length) {i:Nat} (h0:0≤lab best i):0≤lab (rnd n f st best) i∧lab (rnd n f st best) i≤lab best i:=by
 rcases(i5 (st:=st) h hl i).1 with e|⟨j,z,e,g1,g2,g3,g4,g5⟩
 ·omega
 ·obtain⟨q1,q2,_⟩:=jr h g3
  unfold bM at g5
  omega
theorem Aa (h:FOk n f) {best:List Int} (hl:best.length=(plc n).length) {i:Nat} (hc:lab (rnd n f st (rnd n f st best)) i≠lab (rnd n f st best) i):
 ∃u,lab (rnd n f st best) u≠lab best u∧0≤lab (rnd n f st best) u∧lab (rnd n f st best) u<lab (rnd n f st (rnd n f st best)) i∧bM (rnd n f st best) i (lab (rnd n f st (rnd n f st best)) i):=by
 rcases(i5 (st:=st) h (kb.trans hl) i).1 with e|⟨j,z,e,g1,g2,g3,g4,g5⟩
 ·exact absurd e hc
 ·obtain⟨q1,q2,_⟩:=jr h g3
  refine⟨aI n z,fun he=>?_,q1,by omega,by rw[g4];exact g5⟩
  rw[sC he] at g3
  exact(i5 (st:=st) h hl i).2 j z e g1 g2 g3 g5
theorem nz (h:FOk n f) {best:List Int} (hl:best.length=(plc n).length):∀(k i:Nat),lab (itr n f st (k+1) best) i≠lab (itr n f st k best) i→
 ∃L:List Nat,L.Nodup∧L.length=k+2∧∀w∈L,w<(plc n).length∧0≤lab (itr n f st (k+1) best) w∧lab (itr n f st (k+1) best) w≤lab (itr n f st (k+1) best) i
 |0,i,hc=>by
  have e1:itr n f st (0+1) best=rnd n f st best:=rfl
  rw[e1] at hc ⊢
  rcases(i5 (st:=st) h hl i).1 with e|⟨j,z,e,g1,g2,g3,g4,g5⟩
  ·exact absurd e hc
  ·obtain⟨q1,q2,_⟩:=jr h g3
   have hi:=(lx (List.mem_of_getElem? g1)).2
   have hu:=(lx (List.mem_of_getElem? g1)).1
   rw[g2] at hi
   have hm:=vX (st:=st) h hl q1
   refine⟨[i,aI n z],?_,rfl,fun w hw=>?_⟩
   ·simp only[List.nodup_cons,List.mem_singleton,List.not_mem_nil,not_false_eq_true,List.nodup_nil,and_self,and_true]
    intro e'
    rw[←e'] at q1 q2
    unfold bM at g5
    omega
   ·simp only[List.mem_cons,List.not_mem_nil,or_false] at hw
    rcases hw with rfl|rfl
    ·exact⟨hi,by omega,Int.le_refl _⟩
    ·exact⟨hu,hm.1,by omega⟩
 |k+1,i,hc=>by
  rw[gU (k+1),gU k] at hc
  obtain⟨u,hu,u0,u1,u2⟩:=Aa h ((iW _ _).trans hl) hc
  rw[←gU k] at hu u0 u1 u2
  obtain⟨L,l1,l2,l3⟩:=nz h hl k u hu
  rw[gU (k+1)]
  have hlen:(itr n f st (k+1) best).length=(plc n).length:=by rw[iW];exact hl
  refine⟨i::L,List.nodup_cons.2 ⟨fun hi=>?_,l1⟩,by simp[l2],fun w hw=>?_⟩
  ·obtain⟨_,b1,b2⟩:=l3 i hi
   unfold bM at u2
   omega
  ·rcases List.mem_cons.1 hw with rfl|hw
   ·refine⟨?_,by omega,Int.le_refl _⟩
    have:w<(rnd n f st (itr n f st (k+1) best)).length:=CZ (by omega)
    rwa [kb,hlen] at this
   ·obtain⟨b0,b1,b2⟩:=l3 w hw
    have hm:=vX (st:=st) h hlen b1
    exact⟨b0,hm.1,by omega⟩
theorem Dx (h:FOk n f) {best:List Int} (hl:best.length=(plc n).length) {k:Nat} (hk:(plc n).length≤k+1):rnd n f st (itr n f st k best)=itr n f st k best:=by
 refine yN kb fun i=>?_
 rcases Decidable.em (lab (rnd n f st (itr n f st k best)) i=lab (itr n f st k best) i) with e|e
 ·exact e
 ·exfalso
  rw[←gU] at e
  obtain⟨L,l1,l2,l3⟩:=nz h hl k i e
  have:=pk _ L l1 fun w hw=>(l3 w hw).1
  omega
theorem Ds (h:FOk n f) {best:List Int} (hl:best.length=(plc n).length) (m:Nat):itr n f st (min m (plc n).length) best=itr n f st m best:=by
 rcases Nat.le_total m (plc n).length with hm|hm
 ·rw[Nat.min_eq_left hm]
 ·rw[Nat.min_eq_right hm]
  obtain⟨k,rfl⟩:∃k,m=(plc n).length+k:=⟨m-(plc n).length,by omega⟩
  rw[tP,tY (Dx h hl (by omega))]
theorem xG (h:FOk n f) {best:List Int} (hl:best.length=(plc n).length) (hb:∀i,lab best i≤100000) (i:Nat):lab (rnd n f st best) i≤100000:=by
 rcases(i5 (st:=st) h hl i).1 with e|⟨j,z,e,g1,g2,g3,g4,g5⟩
 ·rw[e];exact hb i
 ·obtain⟨q1,q2,q3,_⟩:=jr h g3;omega
theorem Cb (h:FOk n f):∀(m:Nat) {best:List Int},best.length=(plc n).length→(∀i,lab best i≤100000)→∀i,lab (itr n f st m best) i≤100000
 |0,best,_,hb,i=>hb i
 |m+1,best,hl,hb,i=>Cb h m (kb.trans hl) (xG h hl hb) i
end
end Go.Vs
namespace Go.Vs
open Go.IntWalk
theorem Bk {fd:Fd} {n:Network} {f:Int→Int→Option Int} (hn:NetOk n) (hf:Find fd n f) {best:List Int} (hl:best.length=(plc n).length) (hb:∀i,lab best i≤100000) {st:Nat}:∀(ls:List Leg) (k:Nat) (out:List Int) (ch:Bool),n.Legs.drop k=ls→out.length=(plc n).length→
 bq G.real TE.real n fd best (plc n) (st:Int) ls (k:Int) out ch=some (g0 n f st best ls (k:Int) out,ch||chg n f st best ls (k:Int) out)
 |[],k,out,ch,_,_=>by rw[bq,g0,chg,Bool.or_false]
 |z::ls,k,out,ch,hd,ho=>by
  have hlen:=hn.len
  have hk:k<n.Legs.length:=by
   have:=congrArg List.length hd
   simp at this;omega
  have hz:n.Legs[k]?=some z:=by
   have:(n.Legs.drop k)[0]?=some z:=by rw[hd];rfl
   simpa using this
  have hd2:n.Legs.drop (k+1)=ls:=by
   have:=congrArg List.tail hd
   simpa using this
  have hm:=List.mem_of_getElem? hz
  obtain⟨ha,hbz⟩:=lx hm
  have pl:=dp n
  have e1:ix (plc n) z.From=(aI n z:Int):=kq ((e8 n _).2 ⟨z,hm,.inl rfl⟩)
  have e2:ix (plc n) z.To=(bI n z:Int):=kq ((e8 n _).2 ⟨z,hm,.inr rfl⟩)
  have hk1:(k:Int)+1=((k+1:Nat):Int):=by omega
  rw[bq,g0,chg]
  simp only[bd,se (show(plc n).length≤4194304 by omega),e1,e2,dP,bS,Int.toNat_natCast,eh,bB,eu,ao]
  rw[ak (by omega),aw (fC (l:=best) (by omega)),w64 (n:=(k:Int)+1) (by omega) (by omega),hk1]
  have ih:=fun o c ho=>Bk hn hf hl hb (st:=st) ls (k+1) o c hd2 ho
  by_cases h0:lab best (aI n z)<0
  ·have hv:via n f st best z (k:Int)=none:=by unfold via;rw[if_pos h0]
   rw[if_pos h0,hv]
   exact ih out ch ho
  ·rw[if_neg h0,ak (by omega)]
   have hx:=hb (aI n z)
   have hc:=hn.change
   have er:jt G.real TE.real n (lab best (aI n z)) (decide ((aI n z:Int)=(st:Int)))=rdy n (lab best (aI n z)) (decide (aI n z=st)):=by
    unfold jt rdy
    simp only[bB,ao]
    rw[w64 (by omega) (by omega)]
    by_cases hs:aI n z=st
    ·rw[if_pos (by omega),if_pos (by simp[hs])]
    ·rw[if_neg (by omega),if_neg (by simp[hs])]
   rw[er,hf.call,ag]
   cases hfv:f (k:Int) (rdy n (lab best (aI n z)) (decide (aI n z=st))) with
   |none=>
    have hv:via n f st best z (k:Int)=none:=by unfold via;rw[if_neg h0,hfv];rfl
    rw[hv]
    exact ih out ch ho
   |some d=>
    have hv:via n f st best z (k:Int)=some (enN n (k:Int) d):=by unfold via;rw[if_neg h0,hfv];rfl
    rw[hv]
    obtain⟨r1,r2,r3,r4⟩:=dM (n:=n) (by omega) (hf.ok hfv).1
    simp only[tbO,cP]
    rw[ak (by omega),aw (fC (l:=out) (by omega)),sR hn r1 r2 r3 r4]
    simp only[ag]
    have ho2:(out.set (bI n z) (enN n (k:Int) d)).length=(plc n).length:=by simpa using ho
    by_cases h1:lab out (bI n z)<0
    ·have hbt:bM out (bI n z) (enN n (k:Int) d):=.inl h1
     rw[if_pos h1,ak (by omega),if_pos hbt,if_pos hbt,ih _ true ho2,Bool.true_or,Bool.or_true]
    ·rw[if_neg h1,ak (by omega)]
     by_cases h2:enN n (k:Int) d<lab out (bI n z)
     ·have hbt:bM out (bI n z) (enN n (k:Int) d):=.inr h2
      rw[if_pos h2,ak (by omega),if_pos hbt,if_pos hbt,ih _ true ho2,Bool.true_or,Bool.or_true]
     ·have hbt:¬bM out (bI n z) (enN n (k:Int) d):=by unfold bM;omega
      rw[if_neg h2,if_neg hbt,if_neg hbt]
      exact ih out ch ho
theorem BB {fd:Fd} {n:Network} {f:Int→Int→Option Int} (hn:NetOk n) (hf:Find fd n f) {st:Nat}:∀(m:Nat) (best:List Int),best.length=(plc n).length→(∀i,lab best i≤100000)→
 c8 G.real TE.real n fd (plc n) (st:Int) m best=some (itr n f st m best)
 |0,best,_,_=>by rw[c8];rfl
 |m+1,best,hl,hb=>by
  have pl:=dp n
  have hlen:=hn.len
  have hok:FOk n f:=⟨hn,hf.ok⟩
  rw[c8]
  simp only[bd,List.nil_append]
  rw[ak (by simp;omega),show(0:Int)=((0:Nat):Int) from rfl,Bk hn hf hl hb n.Legs 0 best false (by simp) hl,ag,Bool.false_or]
  cases hc:chg n f st best n.Legs ((0:Nat):Int) best with
  |true=>
   rw[cP]
   exact BB hn hf m (rnd n f st best) (kb.trans hl) (xG hok hl hb)
  |false=>
   rw[jX]
   have e:rnd n f st best=best:=od hc
   rw[show g0 n f st best n.Legs ((0:Nat):Int) best=rnd n f st best from rfl,tY e,e]
theorem A9:∀(m:Nat) (w:List Int),w.length+m≤1000000→db G.real TE.real m w=some (w++List.replicate m (-1))
 |0,w,_=>by rw[db];simp
 |m+1,w,h=>by
  rw[db]
  simp only[bd]
  rw[ak (by simp;omega),A9 m _ (by simp;omega),List.append_assoc]
  rfl
def kr (n:Network) (st:Nat) (a:Int):List Int:=(List.replicate (plc n).length (-1)).set st (max a 0)
theorem iI (n:Network) (st:Nat) (a:Int):(kr n st a).length=(plc n).length:=by unfold kr;simp
theorem qN {n:Network} {st:Nat} (hst:st<(plc n).length) (a:Int) (i:Nat):lab (kr n st a) i=if i=st then max a 0 else-1:=by
 unfold kr
 rw[pF (by simpa using hst)]
 by_cases h:st=i
 ·rw[if_pos h,if_pos h.symm]
 ·rw[if_neg h,if_neg (fun e=>h e.symm)]
  unfold lab
  rw[List.getD_eq_getElem?_getD,List.getElem?_replicate]
  split<;>rfl
theorem tw {n:Network} {st:Nat} (hst:st<(plc n).length) {a:Int} (ha:a≤100000) (i:Nat):lab (kr n st a) i≤100000:=by
 rw[qN hst];split<;>omega
def ln (n:Network) (f:Int→Int→Option Int) (s:ByteArray) (a:Int) (m:Int):List Int:=
 if s∉plc n∨100000<a∨m<0 then[] else itr n f (ixN (plc n) s) m.toNat (kr n (ixN (plc n) s) a)
theorem Fv {fd:Fd} {n:Network} {f:Int→Int→Option Int} (hn:NetOk n) (hf:Find fd n f) (s:ByteArray) (a:Int) {m:Int} (hm:m≤9223372036854775807):
 iv G.real TE.real n fd s a m=some (ln n f s a m):=by
 have pl:=dp n
 have hlen:=hn.len
 unfold iv ln
 rw[vr (by omega)]
 simp only[ag,bd,se (show(plc n).length≤4194304 by omega),eh,ao,hJ,eG,dP,bS]
 by_cases h1:s∈plc n
 ·have hi:=eQ h1
  rw[kq h1,if_neg (by omega)]
  by_cases h2:100000<a
  ·rw[if_pos h2,if_pos (by simp[h2])]
  ·rw[if_neg h2]
   by_cases h3:m<0
   ·rw[if_pos h3,if_pos (by simp[h3])]
   ·rw[if_neg h3,if_neg (by simp[h1,h2,h3])]
    have cn:ap 0 ((plc n).length:Int)=(plc n).length:=by unfold ap;omega
    have cm:ap 0 m=m.toNat:=by unfold ap;omega
    rw[ak (by omega),cn,A9 _ _ (by simp;omega),ag,List.nil_append,ak (by rw[List.length_replicate];omega),Int.toNat_natCast,aw (fC (by rw[List.length_replicate];exact hi.1)),ak hm,cm]
    have e:(List.replicate (plc n).length (-1)).set (ixN (plc n) s) (G.real.imax a 0)=kr n (ixN (plc n) s) a:=rfl
    rw[e,BB hn hf _ _ (iI _ _ _) (tw hi.1 (by omega)),ag]
 ·rw[if_pos (ua.2 h1),if_pos (.inl h1)]
theorem qR (a:Int) (st:Nat):∀(ls:List ByteArray) (k:Nat) (w:List Int),k+ls.length≤4194304→w.length+ls.length≤4194304→cV G.real TE.real (st:Int) a ls (k:Int) w=some (w++(List.range' k ls.length).map fun i=>if i=st then max a 0 else-1)
 |[],k,w,_,_=>by rw[cV];simp
 |z::ls,k,w,h,h2=>by
  simp only[List.length_cons] at h h2
  have em:qc G.real TE.real a 0=max a 0:=by
   unfold qc
   simp only[eh,ao]
   split<;>omega
  rw[cV]
  simp only[eu,ao,bd,bB,em]
  rw[w64 (by omega) (by omega),show(k:Int)+1=((k+1:Nat):Int) from by omega,ak (by simp;omega),ak (by simp;omega),qR a st ls (k+1) _ (by omega) (by simp;omega),qR a st ls (k+1) _ (by omega) (by simp;omega),List.length_cons,List.range'_succ,List.map_cons]
  by_cases hk:k=st
  ·rw[if_pos (by omega),if_pos hk];simp
  ·rw[if_neg (by omega),if_neg hk];simp
theorem Dn {n:Network} (hn:NetOk n) {st:Nat} (hst:st<(plc n).length) (a:Int):jI G.real TE.real (plc n) (st:Int) a=some (kr n st a):=by
 have pl:=dp n
 have hlen:=hn.len
 unfold jI
 rw[bd,show(0:Int)=((0:Nat):Int) from rfl,qR a st (plc n) 0 [] (by omega) (by simp;omega),ag,List.nil_append]
 congr 1
 refine yN (by rw[iI];simp) fun i=>?_
 rw[qN hst]
 unfold lab
 rw[List.getD_eq_getElem?_getD,List.getElem?_map]
 by_cases hi:i<(plc n).length
 ·rw[List.getElem?_range' hi];simp
 ·rw[List.getElem?_eq_none (by simp;omega)]
  simp only[Option.map_none,Option.getD_none]
  rw[if_neg (by omega)]
theorem DQ {n:Network} {f:Int→Int→Option Int} (hn:NetOk n) (hf:f=fN n) {best:List Int} (hl:best.length=(plc n).length) (hb:∀i,lab best i≤100000) {st:Nat}:∀(ls:List Leg) (k:Nat) (out:List Int),n.Legs.drop k=ls→out.length=(plc n).length→
 bJ G.real TE.real n (plc n) best (st:Int) ls (k:Int) out=some (g0 n f st best ls (k:Int) out)
 |[],k,out,_,_=>by rw[bJ,g0]
 |z::ls,k,out,hd,ho=>by
  have hlen:=hn.len
  have hk:k<n.Legs.length:=by
   have:=congrArg List.length hd
   simp at this;omega
  have hz:n.Legs[k]?=some z:=by
   have:(n.Legs.drop k)[0]?=some z:=by rw[hd];rfl
   simpa using this
  have hd2:n.Legs.drop (k+1)=ls:=by
   have:=congrArg List.tail hd
   simpa using this
  have hm:=List.mem_of_getElem? hz
  obtain⟨ha,hbz⟩:=lx hm
  have pl:=dp n
  have e1:ix (plc n) z.From=(aI n z:Int):=kq ((e8 n _).2 ⟨z,hm,.inl rfl⟩)
  have e2:ix (plc n) z.To=(bI n z:Int):=kq ((e8 n _).2 ⟨z,hm,.inr rfl⟩)
  have hk1:(k:Int)+1=((k+1:Nat):Int):=by omega
  rw[bJ,g0]
  simp only[bd,p8 (show(plc n).length≤4194304 by omega),e1,e2,dP,bS,Int.toNat_natCast,eh,bB,eu,ao]
  rw[ak (by omega),aw (fC (l:=best) (by omega)),w64 (n:=(k:Int)+1) (by omega) (by omega),hk1]
  have ih:=fun o ho=>DQ hn hf hl hb (st:=st) ls (k+1) o hd2 ho
  by_cases h0:lab best (aI n z)<0
  ·have hv:via n f st best z (k:Int)=none:=by unfold via;rw[if_pos h0]
   rw[if_pos h0,hv]
   exact ih out ho
  ·rw[if_neg h0,ak (by omega)]
   have hx:=hb (aI n z)
   have hc:=hn.change
   have er:fK G.real TE.real n (lab best (aI n z)) (decide ((aI n z:Int)=(st:Int)))=rdy n (lab best (aI n z)) (decide (aI n z=st)):=by
    unfold fK rdy
    simp only[bB,ao]
    rw[w64 (by omega) (by omega)]
    by_cases hs:aI n z=st
    ·rw[if_pos (by omega),if_pos (by simp[hs])]
    ·rw[if_neg (by omega),if_neg (by simp[hs])]
   rw[er,Cz hn,show fdD (pN n (k:Int) (rdy n (lab best (aI n z)) (decide (aI n z=st)))) 61 0=f (k:Int) (rdy n (lab best (aI n z)) (decide (aI n z=st))) from by rw[hf];rfl,ag]
   cases hfv:f (k:Int) (rdy n (lab best (aI n z)) (decide (aI n z=st))) with
   |none=>
    have hv:via n f st best z (k:Int)=none:=by unfold via;rw[if_neg h0,hfv];rfl
    rw[hv,if_pos (show dyO none<0 by show(-1:Int)<0;omega)]
    exact ih out ho
   |some d=>
    have hv:via n f st best z (k:Int)=some (enN n (k:Int) d):=by unfold via;rw[if_neg h0,hfv];rfl
    rw[hv]
    show _=some (if bM out (bI n z) (enN n (k:Int) d) then g0 n f st best ls ((k+1:Nat):Int) (out.set (bI n z) (enN n (k:Int) d)) else g0 n f st best ls ((k+1:Nat):Int) out)
    obtain⟨r1,r2,r3,r4⟩:=dM (n:=n) (by omega) (((fR hn).ok (by rw[hf] at hfv;exact hfv)).1)
    rw[if_neg (show¬dyO (some d)<0 by show¬d<0;omega),show dyO (some d)=d from rfl,wm hn r1 r2 r3 r4,ag,ak (by omega),aw (fC (l:=out) (by omega))]
    have ho2:(out.set (bI n z) (enN n (k:Int) d)).length=(plc n).length:=by simpa using ho
    by_cases h1:lab out (bI n z)<0
    ·have hbt:bM out (bI n z) (enN n (k:Int) d):=.inl h1
     rw[if_pos h1,ak (by omega),if_pos hbt,ih _ ho2]
    ·rw[if_neg h1,ak (by omega)]
     by_cases h2:enN n (k:Int) d<lab out (bI n z)
     ·have hbt:bM out (bI n z) (enN n (k:Int) d):=.inr h2
      rw[if_pos h2,ak (by omega),if_pos hbt,ih _ ho2]
     ·have hbt:¬bM out (bI n z) (enN n (k:Int) d):=by unfold bM;omega
      rw[if_neg h2,if_neg hbt]
      exact ih out ho
theorem Cj {n:Network} {f:Int→Int→Option Int} (hn:NetOk n) (hf:f=fN n) {st:Nat}:∀(m k:Nat) (best:List Int),best.length=(plc n).length→(∀i,lab best i≤100000)→
 bD G.real TE.real n (plc n) (st:Int) m (k:Int) best=some (itr n f st (min m ((plc n).length-k)) best)
 |0,k,best,_,_=>by rw[bD,Nat.zero_min];rfl
 |m+1,k,best,hl,hb=>by
  have pl:=dp n
  have hlen:=hn.len
  have hok:FOk n f:=⟨hn,by rw[hf];exact(fR hn).ok⟩
  rw[bD]
  simp only[eh,eG,hJ,ao,bB]
  by_cases hk:k<(plc n).length
  ·rw[if_pos (by omega)]
   unfold lG nl
   simp only[bd,List.nil_append]
   rw[ak (by simp;omega),ag,show(0:Int)=((0:Nat):Int) from rfl,DQ hn hf hl hb n.Legs 0 best (by simp) hl]
   simp only[ag]
   rw[w64 (by omega) (by omega),show(k:Int)+1=((k+1:Nat):Int) from by omega]
   have:=Cj hn hf (st:=st) m (k+1) (rnd n f st best) (kb.trans hl) (xG hok hl hb)
   rw[show g0 n f st best n.Legs ((0:Nat):Int) best=rnd n f st best from rfl,this,show min (m+1) ((plc n).length-k)=min m ((plc n).length-(k+1))+1 by omega]
   rfl
  ·rw[if_neg (by omega),show min (m+1) ((plc n).length-k)=0 by omega]
   rfl
theorem Gc {n:Network} (hn:NetOk n) (ht:n.tot≤1048576) (hb:netB n=true) (s:ByteArray) (a:Int) {m:Int} (hm:m≤9223372036854775807):aZ G.real TE.real n s a m=some (ln n (fN n) s a m):=by
 have pl:=dp n
 have hlen:=hn.len
 have hok:FOk n (fN n):=⟨hn,(fR hn).ok⟩
 unfold aZ ln
 rw[sP (by omega),wh ht,hb]
 simp only[ag,bd,p8 (show(plc n).length≤4194304 by omega),eh,ao,cP]
 by_cases h1:s∈plc n
 ·have hi:=eQ h1
  rw[kq h1,if_neg (by omega)]
  by_cases h2:100000<a
  ·rw[if_pos h2,if_pos (by simp[h2])]
  ·rw[if_neg h2]
   by_cases h3:m<0
   ·rw[if_pos h3,if_pos (by simp[h3])]
   ·rw[if_neg h3,if_neg (by simp[h1,h2,h3])]
    have cm:ap 0 m=m.toNat:=by unfold ap;omega
    rw[Dn hn hi.1,ag,ak hm,cm,show(0:Int)=((0:Nat):Int) from rfl,Cj hn rfl m.toNat 0 _ (iI _ _ _) (tw hi.1 (by omega)),ag,Nat.sub_zero,Ds hok (iI _ _ _)]
 ·rw[if_pos (ua.2 h1),if_pos (.inl h1)]
theorem ba_i {n:Network} (hn:NetOk n) (ht:n.tot≤1048576) (hb:netB n=true) (s:ByteArray) (a:Int) {m:Int} (hm:m≤9223372036854775807):dh G.real TE.real n s a m=some (ln n (fN n) s a m):=by
 unfold dh nD
 rw[sk ht,hb]
 simp only[ag,bd,cP]
 rw[Fv hn (fR hn) s a hm,ag]
def eaB (n:Network) (s p:ByteArray) (a:Int):Int:=
 if netB n=true∧s∈plc n∧a≤100000∧p∈plc n then lab (ln n (fN n) s a (plc n).length) (ixN (plc n) p) else-1
theorem vl {n:Network} {f:Int→Int→Option Int} {s:ByteArray} {a m:Int} (h1:s∈plc n) (h2:a≤100000) (h3:0≤m):(ln n f s a m).length=(plc n).length:=by
 unfold ln
 rw[if_neg (by simp[h1];omega),iW,iI]
theorem FX {n:Network} (ht:n.tot≤1048576) (hl:n.Legs.length≤1048576) (s p:ByteArray) (a:Int):eW G.real TE.real n s p a=some (eaB n s p a):=by
 have pl:=dp n
 unfold eW eaB
 rw[vr (by omega)]
 simp only[ag,eG,hJ]
 cases hb:netB n with
 |false=>
  have e:dh G.real TE.real n s a ((plc n).length:Int)=some []:=by
   unfold dh;rw[sk ht,hb];rfl
  rw[e,if_neg (by simp)]
  simp only[ag,bd,eh,eu,ao,dP]
  split
  ·rfl
  ·rfl
 |true=>
  have hn:=gZ ht hb
  rw[ba_i hn ht hb s a (by omega),ag]
  simp only[bd,se (show(plc n).length≤4194304 by omega),eh,eu,ao,dP,bS]
  by_cases hp:p∈plc n
  ·have hi:=eQ hp
   rw[kq hp,if_neg (by omega)]
   by_cases hs:s∈plc n∧a≤100000
   ·have hla:=vl (n:=n) (f:=fN n) (m:=((plc n).length:Int)) hs.1 hs.2 (by omega)
    rw[hla,if_neg (by omega),ak (by omega),Int.toNat_natCast,aw (fC (by omega)),if_pos (by simp[hs,hp])]
   ·have e:ln n (fN n) s a ((plc n).length:Int)=[]:=by
     unfold ln
     rw[if_pos]
     by_cases h1:s∈plc n
     ·right;left
      have:¬a≤100000:=fun h=>hs ⟨h1,h⟩
      omega
     ·exact .inl h1
    rw[e,if_pos (by simp),if_neg (fun h=>hs ⟨h.2.1,h.2.2.1⟩)]
  ·rw[if_pos (ua.2 hp),if_neg (fun h=>hp h.2.2.2)]
theorem ea_s {n:Network} (ht:n.tot≤1048576) (hl:n.Legs.length≤1048576) (s p:ByteArray) (a:Int):gb G.real TE.real n s p a=some (eaB n s p a):=by
 have pl:=dp n
 unfold gb eaB
 rw[sP (by omega)]
 simp only[ag,bd,eG,hJ]
 cases hb:netB n with
 |false=>
  have e:aZ G.real TE.real n s a ((plc n).length:Int)=some []:=by
   unfold aZ;rw[sP (by omega),wh ht,hb];rfl
  rw[e,if_neg (by simp)]
  simp only[ag,eh,eu,ao,dP]
  split
  ·rfl
  ·rfl
 |true=>
  have hn:=gZ ht hb
  rw[Gc hn ht hb s a (by omega),ag]
  simp only[p8 (show(plc n).length≤4194304 by omega),eh,eu,ao,dP,bS]
  by_cases hp:p∈plc n
  ·have hi:=eQ hp
   rw[kq hp,if_neg (by omega)]
   by_cases hs:s∈plc n∧a≤100000
   ·have hla:=vl (n:=n) (f:=fN n) (m:=((plc n).length:Int)) hs.1 hs.2 (by omega)
    rw[hla,if_neg (by omega),ak (by omega),Int.toNat_natCast,aw (fC (by omega)),if_pos (by simp[hs,hp])]
   ·have e:ln n (fN n) s a ((plc n).length:Int)=[]:=by
     unfold ln
     rw[if_pos]
     by_cases h1:s∈plc n
     ·right;left
      have:¬a≤100000:=fun h=>hs ⟨h1,h⟩
      omega
     ·exact .inl h1
    rw[e,if_pos (by simp),if_neg (fun h=>hs ⟨h.2.1,h.2.2.1⟩)]
  ·rw[if_pos (ua.2 hp),if_neg (fun h=>hp h.2.2.2)]
end Go.Vs
namespace Go.Vs
open Go.IntWalk
def reB (n:Network) (x:Spot) (p:ByteArray):Int:=if x.Place=p then x.At else eaB n x.Place p x.At
def byB (n:Network) (x y:Spot):Bool:=decide (0≤reB n x y.Place∧reB n x y.Place≤y.At)
theorem Bj {n:Network} {f:Int→Int→Option Int} (h:FOk n f) {st:Nat}:∀(m:Nat) {best:List Int},best.length=(plc n).length→(∀i,-1≤lab best i)→∀i,-1≤lab (itr n f st m best) i
 |0,best,_,hb,i=>hb i
 |m+1,best,hl,hb,i=>Bj h m (kb.trans hl) (fun j=>by
   rcases(i5 (st:=st) h hl j).1 with e|⟨k,z,e,g1,g2,g3,g4,g5⟩
   ·rw[e];exact hb j
   ·obtain⟨q1,q2,q3,_⟩:=jr h g3;omega) i
theorem Dy {n:Network} {st:Nat} (a:Int) (i:Nat): -1≤lab (kr n st a) i:=by
 by_cases hst:st<(plc n).length
 ·rw[qN hst];split<;>omega
 ·unfold kr
  rw[List.set_eq_of_length_le (by simpa using hst)]
  unfold lab
  rw[List.getD_eq_getElem?_getD,List.getElem?_replicate]
  split<;>simp
theorem DM {n:Network} (ht:n.tot≤1048576) (s p:ByteArray) (a:Int): -1≤eaB n s p a:=by
 unfold eaB
 split
 ·rename_i h
  have hn:=gZ ht h.1
  unfold ln
  rw[if_neg (by simp[h.2.1];omega)]
  exact Bj ⟨hn,(fR hn).ok⟩ _ (iI _ _ _) (Dy a) _
 ·omega
theorem by_i {n:Network} (ht:n.tot≤1048576) (hl:n.Legs.length≤1048576) (x y:Spot) (h0:0≤x.At):eI G.real TE.real n x y=some (byB n x y):=by
 unfold eI byB reB
 simp only[fk,ao,jU,eu]
 rw[FX ht hl,ag]
 by_cases h:x.Place=y.Place
 ·rw[if_pos h,if_pos h]
  congr 1
  simp only[decide_eq_decide]
  omega
 ·rw[if_neg h,if_neg h]
  have hg:=DM ht x.Place y.Place x.At
  by_cases h1:eaB n x.Place y.Place x.At= -1
  ·rw[if_pos h1]
   congr 1
   simp only[Bool.false_eq,decide_eq_false_iff_not]
   omega
  ·rw[if_neg h1]
   congr 1
   simp only[decide_eq_decide]
   omega
def cfB (n:Network) (a b:Scan):Bool:=
 scB n a&&(scB n b&&(decide (a.Thing=b.Thing)&&(!decide (0≤bG G.real TE.real a b)&&(!decide (a.Kind=4)&&
  (if a.Kind=3∧b.Kind=2∧a.Trip.Leg=b.Trip.Leg∧a.Trip.Day=b.Trip.Day then true else byB n (bhB n a) (bfB n b))))))
theorem B8 {n:Network} (ht:n.tot≤1048576) {s:Scan} (h:scB n s=true):s.At≤(bhB n s).At∧0≤(bhB n s).At∧(bhB n s).At≤100000:=by
 have hk:=lU h
 have htm:=hk.time
 unfold bhB
 rw[if_pos h]
 by_cases k3:s.Kind=3
 ·rw[if_pos k3]
  obtain⟨hn,_,r1,r2,r3,r4⟩:=gc ht hk (.inl k3)
  obtain⟨q1,q2,q3,q4⟩:=mo hn r1 r2 r3 r4
  have:=(hk.load k3).2.2
  show s.At≤enN n s.Trip.Leg s.Trip.Day∧0≤enN n s.Trip.Leg s.Trip.Day∧enN n s.Trip.Leg s.Trip.Day≤100000
  omega
 ·rw[if_neg k3]
  show s.At≤s.At∧0≤s.At∧s.At≤100000
  omega
theorem cf_i {n:Network} (ht:n.tot≤1048576) (hl:n.Legs.length≤1048576) (a b:Scan):gW G.real TE.real n a b=some (cfB n a b):=by
 unfold gW cfB
 rw[show(Scan.mk a.Thing a.At a.Kind a.Place (Trip.mk a.Trip.Leg a.Trip.Day))=a from rfl,show(Scan.mk b.Thing b.At b.Kind b.Place (Trip.mk b.Trip.Leg b.Trip.Day))=b from rfl,zn ht,zn ht,Fg ht,Gj ht]
 cases ha:scB n a with
 |false=>rfl
 |true=>
  cases hb:scB n b with
  |false=>rfl
  |true=>
   simp only[ag,cP,bd,eu,jU,vJ,ao,Bool.true_and]
   rw[by_i ht hl _ _ (B8 ht ha).2.1]
   by_cases h1:a.Thing=b.Thing
   ·rw[if_pos h1,decide_eq_true h1,Bool.true_and]
    by_cases h2:0≤bG G.real TE.real a b
    ·rw[if_pos h2,decide_eq_true h2];rfl
    ·rw[if_neg h2,decide_eq_false h2,Bool.not_false,Bool.true_and]
     by_cases h3:a.Kind=4
     ·rw[if_pos h3,decide_eq_true h3];rfl
     ·rw[if_neg h3,decide_eq_false h3,Bool.not_false,Bool.true_and]
      by_cases h4:b.Kind=2
      ·rw[if_pos h4]
       by_cases h5:a.Kind=3
       ·rw[if_pos h5]
        by_cases h6:a.Trip.Leg=b.Trip.Leg∧a.Trip.Day=b.Trip.Day
        ·rw[if_pos (c:=a.Kind=3∧_) ⟨h5,h4,h6.1,h6.2⟩,show(List.all [decide (a.Trip.Leg=b.Trip.Leg),decide (a.Trip.Day=b.Trip.Day)] id)=true from by simp[h6.1,h6.2]];rfl
        ·rw[if_neg (c:=a.Kind=3∧_) (fun h=>h6 h.2.2),show(List.all [decide (a.Trip.Leg=b.Trip.Leg),decide (a.Trip.Day=b.Trip.Day)] id)=false from by
          rw[Bool.eq_false_iff];intro h;simp at h;exact h6 h];rfl
       ·rw[if_neg h5,if_neg (c:=a.Kind=3∧_) (fun h=>h5 h.1)];rfl
      ·rw[if_neg h4,if_neg (c:=a.Kind=3∧_) (fun h=>h4 h.2.1)];rfl
   ·rw[if_neg h1,decide_eq_false h1];rfl
end Go.Vs
