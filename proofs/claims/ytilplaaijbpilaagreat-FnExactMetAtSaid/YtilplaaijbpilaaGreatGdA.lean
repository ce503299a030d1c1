/- What is known of a thing; where it may be, what it may ride: both texts agree. -/
import Derived.Test.YtilplaaijbpilaaGreatGcA
import Derived.Test.YtilplaaijbpilaaGreatLad
import Derived.Test.YtilplaaijbpilaaGreatLab
import Derived.Test.YtilplaaijbpilaaGreatLae
import Derived.Test.YtilplaaijbpilaaGreatLac
set_option linter.unusedVariables false
set_option linter.unusedSimpArgs false
set_option linter.unusedSectionVars false
namespace Go.Vs
open Go.IntWalk
def sp0:Spot:=⟨.empty,0⟩
abbrev isB (n:Network) (B:Scan×Bool) (a:Int):Prop:=B.2=true∧B.1.Kind=2∧stN n B.1.Trip.Leg B.1.Trip.Day≤a
abbrev isA (n:Network) (A:Scan×Bool) (a:Int):Prop:=A.1.Kind=3∧a<enN n A.1.Trip.Leg A.1.Trip.Day
def knB (n:Network) (A B:Scan×Bool) (a:Int):Know:=
 if A.2=true then
  if A.1.Kind=4 then⟨n,a,false,.empty,⟨0,0⟩,false,false,sp0,sp0,false⟩
  else if isB n B a then⟨n,a,true,(fw n B.1.Trip.Leg).To,B.1.Trip,decide (a<enN n B.1.Trip.Leg B.1.Trip.Day),false,sp0,sp0,false⟩
  else if isA n A a then⟨n,a,true,(fw n A.1.Trip.Leg).From,A.1.Trip,decide (stN n A.1.Trip.Leg A.1.Trip.Day≤a),false,sp0,sp0,false⟩
  else⟨n,a,false,.empty,⟨0,0⟩,false,true,bhB n A.1,bfB n B.1,B.2⟩
 else⟨n,a,false,.empty,⟨0,0⟩,false,false,sp0,sp0,false⟩
theorem Ht {n:Network} (ht:n.tot≤1048576) (l:List Scan) (hl:l.length≤1048576) (x a:Int):jA G.real TE.real n l x a=some (knB n (laB n l x a) (nxB n l x a) a):=by
 have hA:=@nz n l x a
 have hB:=@yS n l x a
 unfold jA
 rw[Gw ht l hl,G7 ht l hl,af,af]
 generalize laB n l x a=A at hA ⊢
 generalize nxB n l x a=B at hB ⊢
 simp only[eB,Gt ht,GT ht,af]
 rw[EK ht hB a]
 unfold knB
 cases hA2:A.2 with
 |false=>rfl
 |true=>
  have hA1:=hA hA2
  rw[D7 ht hA1 a,bd,cB,am,if_pos rfl]
  by_cases h4:A.1.Kind=4
  ·rw[if_pos h4,if_pos h4];rfl
  ·rw[if_neg h4,if_neg h4]
   by_cases hb:isB n B a
   ·obtain⟨hn,_,r1,r2,r3,r4⟩:=dg ht (iX (hB hb.1)) (.inr hb.2.1)
    rw[if_pos hb,if_pos hb,tY hn r1 r2 r3 r4,af,ag r1,aQ,ar (c8 r1 r2),bB];rfl
   ·rw[if_neg hb,if_neg hb]
    by_cases ha:isA n A a
    ·obtain⟨hn,_,r1,r2,r3,r4⟩:=dg ht (iX hA1) (.inl ha.1)
     rw[if_pos ha,if_pos ha,kb hn r1 r2 r3 r4,af,ag r1,aQ,ar (c8 r1 r2),iI];rfl
    ·rw[if_neg ha,if_neg ha]
theorem zD {n:Network} (ht:n.tot≤1048576) (s p:ByteArray) (a b:Int) (h0:0≤a):eO G.real TE.real n s a p b=some (byB n ⟨s,a⟩ ⟨p,b⟩):=by
 unfold eO byB reB
 simp only[gL,am,iI,cB]
 rw[GC ht (de ht),af]
 by_cases h:s=p
 ·rw[if_pos h,if_pos h]
  congr 1
  simp only[decide_eq_decide]
  omega
 ·rw[if_neg h,if_neg h]
  have hg:=ES ht s p a
  by_cases h1:eaB n s p a= -1
  ·rw[if_pos h1]
   congr 1
   simp only[Bool.false_eq,decide_eq_false_iff_not]
   omega
  ·rw[if_neg h1]
   congr 1
   simp only[decide_eq_decide]
   omega
theorem zp {n:Network} (ht:n.tot≤1048576) (s:Spot) (b:Scan) (ok:Bool):cA G.real TE.real n s b ok=some (!ok||byB n s (bfB n b)):=by
 unfold cA
 rw[eB,HQ ht,af,qN ht (de ht),af]
 cases ok with
 |false=>rfl
 |true=>
  unfold byB
  rw[bd,iI,iI,am]
  by_cases h:0≤reB n s (bfB n b).Place
  ·rw[if_pos h];simp[h]
  ·rw[if_neg h];simp[h]
def mbC (n:Network) (A B:Scan×Bool) (a:Int) (p:ByteArray):Bool:=
 if A.2=true then
  if A.1.Kind=4 then false
  else if isB n B a then decide (enN n B.1.Trip.Leg B.1.Trip.Day≤a∧p=(fw n B.1.Trip.Leg).To)
  else if isA n A a then decide (a<stN n A.1.Trip.Leg A.1.Trip.Day∧p=(fw n A.1.Trip.Leg).From)
  else byB n (bhB n A.1) ⟨p,a⟩&&(!B.2||byB n ⟨p,a⟩ (bfB n B.1))
 else false
def mrC (n:Network) (A B:Scan×Bool) (a:Int) (t:Trip):Bool:=
 decide (stN n t.Leg t.Day≤a)&&(decide (a<enN n t.Leg t.Day)&&
 (if A.2=true then
  if A.1.Kind=4 then false
  else if isB n B a then decide (B.1.Trip.Leg=t.Leg∧B.1.Trip.Day=t.Day)
  else if isA n A a then decide (A.1.Trip.Leg=t.Leg∧A.1.Trip.Day=t.Day)
  else byB n (bhB n A.1) ⟨(fw n t.Leg).From,stN n t.Leg t.Day⟩&&(!B.2||byB n ⟨(fw n t.Leg).To,enN n t.Leg t.Day⟩ (bfB n B.1))
 else false))
theorem GP {n:Network} {s:Spot} {p:ByteArray} {a:Int} (h:byB n s ⟨p,a⟩=true):0≤a:=by
 unfold byB at h
 simp only[decide_eq_true_eq] at h
 omega
theorem Ep (a b c d:Int):G.real.all [decide (a=b),decide (c=d)]=decide (a=b∧c=d):=by
 rw[tR]
 simp only[List.all_cons,List.all_nil,id,Bool.and_true,←Bool.decide_and]
theorem Aj {n:Network} (ht:n.tot≤1048576) {A B:Scan×Bool} (hA:A.2=true→scB n A.1=true) (a:Int) (p:ByteArray):
 av G.real TE.real (knB n A B a) p=some (mbC n A B a p):=by
 unfold av knB mbC
 by_cases h2:A.2=true
 ·simp only[if_pos h2]
  by_cases h4:A.1.Kind=4
  ·simp only[if_pos h4];rfl
  ·simp only[if_neg h4]
   by_cases hb:isB n B a
   ·simp only[if_pos hb,bd,am,gL]
    by_cases hc:a<enN n B.1.Trip.Leg B.1.Trip.Day
    ·rw[if_pos hc];congr 1;symm;rw[decide_eq_false_iff_not];omega
    ·rw[if_neg hc];congr 1;rw[decide_eq_decide]
     exact⟨fun h=>⟨by omega,h.symm⟩,fun h=>h.2.symm⟩
   ·simp only[if_neg hb]
    by_cases ha:isA n A a
    ·simp only[if_pos ha,bd,am,gL]
     by_cases hc:stN n A.1.Trip.Leg A.1.Trip.Day≤a
     ·rw[if_pos hc];congr 1;symm;rw[decide_eq_false_iff_not];omega
     ·rw[if_neg hc];congr 1;rw[decide_eq_decide]
      exact⟨fun h=>⟨by omega,h.symm⟩,fun h=>h.2.symm⟩
    ·simp only[if_neg ha,gX,bd]
     rw[show(Network.mk n.Legs n.Off n.Change)=n from rfl,zD ht _ _ _ _ (Cj ht (hA h2)).2.1,af]
     show br (byB n (bhB n A.1) ⟨p,a⟩) _ _=_
     cases h1:byB n (bhB n A.1) ⟨p,a⟩ with
     |false=>rfl
     |true=>
      rw[bd,zD ht _ _ _ _ (GP h1),af]
      cases B.2<;>rfl
 ·simp only[if_neg h2];rfl
theorem By {n:Network} (ht:n.tot≤1048576) {A B:Scan×Bool} (hA:A.2=true→scB n A.1=true) (a:Int) {t:Trip} (hT:jY n t=true):
 ay G.real TE.real (knB n A B a) t=some (mrC n A B a t):=by
 unfold jY at hT
 rw[Bool.and_eq_true] at hT
 have hn:=lu ht hT.1
 obtain⟨r1,r2,r3,r4⟩:=gm (n:=n) (de ht) hT.2
 obtain⟨q1,q2,q3,q4⟩:=nF hn r1 r2 r3 r4
 have e1:∀(u:Trip),u.Leg=t.Leg∧u.Day=t.Day→stN n u.Leg u.Day=stN n t.Leg t.Day∧enN n u.Leg u.Day=enN n t.Leg t.Day:=fun u h=>by rw[h.1,h.2];exact⟨rfl,rfl⟩
 unfold ay knB mrC
 by_cases h2:A.2=true
 ·simp only[if_pos h2]
  by_cases h4:A.1.Kind=4
  ·simp only[if_pos h4];rw[gX,ag r1,aQ,ar (c8 r1 r2),gX];simp
  ·simp only[if_neg h4]
   by_cases hb:isB n B a
   ·simp only[if_pos hb,bd,am,cB]
    rw[Ep]
    have hb3:=hb.2.2
    by_cases hc:a<enN n B.1.Trip.Leg B.1.Trip.Day
    ·rw[if_pos hc];congr 1
     by_cases he:B.1.Trip.Leg=t.Leg∧B.1.Trip.Day=t.Day
     ·obtain⟨e2,e3⟩:=e1 _ he
      rw[decide_eq_true he,decide_eq_true (by omega),decide_eq_true (by omega)];rfl
     ·rw[decide_eq_false he];simp
    ·rw[if_neg hc];congr 1
     by_cases he:B.1.Trip.Leg=t.Leg∧B.1.Trip.Day=t.Day
     ·obtain⟨e2,e3⟩:=e1 _ he
      rw[decide_eq_false (p:=a<enN n t.Leg t.Day) (by omega)];simp
     ·rw[decide_eq_false he];simp
   ·simp only[if_neg hb]
    by_cases ha:isA n A a
    ·simp only[if_pos ha,bd,am,cB]
     rw[Ep]
     have ha2:=ha.2
     by_cases hc:stN n A.1.Trip.Leg A.1.Trip.Day≤a
     ·rw[if_pos hc];congr 1
      by_cases he:A.1.Trip.Leg=t.Leg∧A.1.Trip.Day=t.Day
      ·obtain⟨e2,e3⟩:=e1 _ he
       rw[decide_eq_true he,decide_eq_true (by omega),decide_eq_true (by omega)];rfl
      ·rw[decide_eq_false he];simp
     ·rw[if_neg hc];congr 1
      by_cases he:A.1.Trip.Leg=t.Leg∧A.1.Trip.Day=t.Day
      ·obtain⟨e2,e3⟩:=e1 _ he
       rw[decide_eq_false (p:=stN n t.Leg t.Day≤a) (by omega)];simp
      ·rw[decide_eq_false he];simp
    ·simp only[if_neg ha,gX,bd]
     rw[show(Network.mk n.Legs n.Off n.Change)=n from rfl,ag r1,aQ,ar (c8 r1 r2),kb hn r1 r2 r3 r4,af,tY hn r1 r2 r3 r4,af,af,bB,iI,am,am,zD ht _ _ _ _ (Cj ht (hA h2)).2.1,af,af,zD ht _ _ _ _ (by omega),af]
     by_cases c1:a<stN n t.Leg t.Day
     ·rw[if_pos c1,decide_eq_false (p:=stN n t.Leg t.Day≤a) (by omega)];rfl
     ·rw[if_neg c1,decide_eq_true (p:=stN n t.Leg t.Day≤a) (by omega)]
      by_cases c2:enN n t.Leg t.Day≤a
      ·rw[if_pos c2,decide_eq_false (p:=a<enN n t.Leg t.Day) (by omega)];rfl
      ·rw[if_neg c2,decide_eq_true (p:=a<enN n t.Leg t.Day) (by omega),Bool.true_and,Bool.true_and]
       show br (byB n (bhB n A.1) _) _ _=_
       cases byB n (bhB n A.1) ⟨(fw n t.Leg).From,stN n t.Leg t.Day⟩ with
       |false=>rfl
       |true=>cases B.2<;>rfl
 ·simp only[if_neg h2];rw[gX,ag r1,aQ,ar (c8 r1 r2),gX];simp
def mbB (n:Network) (l:List Scan) (x a:Int) (p:ByteArray):Bool:=decide (p∈plc n)&&mbC n (laB n l x a) (nxB n l x a) a p
def mrB (n:Network) (l:List Scan) (x a:Int) (t:Trip):Bool:=jY n t&&mrC n (laB n l x a) (nxB n l x a) a t
theorem yL {n:Network} {l:List Scan} {x a:Int} (h:netB n=false):(laB n l x a).2=false:=by
 cases hA:(laB n l x a).2 with
 |false=>rfl
 |true=>have:=(iX (nz hA)).net;rw[h] at this;cases this
theorem zc {n:Network} {A B:Scan×Bool} {a:Int} {p:ByteArray} (h:A.2=false):mbC n A B a p=false:=by
 unfold mbC;rw[h];rfl
theorem mb_i {n:Network} (ht:n.tot≤1048576) (l:List Scan) (hl:l.length≤1048576) (x a:Int) (p:ByteArray):kX G.real TE.real n l x a p=some (mbB n l x a p):=by
 unfold kX mbB
 simp only[tC ht,wq (de ht),af,az,tS (sA ht),Ht ht l hl,iI,am,pt]
 cases hb:netB n with
 |false=>rw[zc (yL hb),Bool.and_false];rfl
 |true=>
  rw[bd]
  by_cases hp:p∈plc n
  ·rw[if_pos hp,decide_eq_true hp,Bool.true_and]
   exact(congrArg (fun o=>cl o fun z=>some z) (Aj ht nz a p)).trans rfl
  ·rw[if_neg hp,decide_eq_false hp];rfl
theorem GX {n:Network} (ht:n.tot≤1048576) (l:List Scan) (hl:l.length≤1048576) (x a:Int) (p:ByteArray):g8 G.real TE.real n l x a p=some (mbB n l x a p):=by
 have hA:=@nz n l x a
 have hB:=@yS n l x a
 unfold g8 mbB
 rw[HC ht l hl,Hg ht l hl,af,af]
 generalize laB n l x a=A at hA ⊢
 generalize nxB n l x a=B at hB ⊢
 simp only[eB,sB (de ht),af,az,xd (sA ht),F5 ht,qN ht (de ht),zp ht]
 rw[vt ht hB a]
 unfold mbC
 cases hA2:A.2 with
 |false=>rw[gX,if_neg (by simp),Bool.and_false]
 |true=>
  have hA1:=hA hA2
  rw[z5 ht hA1 a,bd,cB,am,if_pos rfl,bB,am]
  by_cases h4:A.1.Kind=4
  ·rw[if_pos h4,if_pos h4,Bool.and_false]
  ·rw[if_neg h4,if_neg h4]
   by_cases hp:p∈plc n
   ·rw[if_neg (by rw[pD];exact fun h=>h hp),decide_eq_true hp,Bool.true_and]
    by_cases hb:isB n B a
    ·obtain⟨hn,_,r1,r2,r3,r4⟩:=dg ht (iX (hB hb.1)) (.inr hb.2.1)
     rw[if_pos hb,if_pos hb,tQ hn r1 r2 r3 r4,af,ag r1,aQ,ar (c8 r1 r2),iI,gL,am]
     by_cases hc:enN n B.1.Trip.Leg B.1.Trip.Day≤a
     ·rw[if_pos hc];congr 1;rw[decide_eq_decide];exact⟨fun h=>⟨hc,h⟩,fun h=>h.2⟩
     ·rw[if_neg hc];congr 1;symm;rw[decide_eq_false_iff_not];exact fun h=>hc h.1
    ·rw[if_neg hb,if_neg hb]
     by_cases ha:isA n A a
     ·obtain⟨hn,_,r1,r2,r3,r4⟩:=dg ht (iX hA1) (.inl ha.1)
      rw[if_pos ha,if_pos ha,jd hn r1 r2 r3 r4,af,ag r1,aQ,ar (c8 r1 r2),bB,gL,am]
      by_cases hc:a<stN n A.1.Trip.Leg A.1.Trip.Day
      ·rw[if_pos hc];congr 1;rw[decide_eq_decide];exact⟨fun h=>⟨hc,h⟩,fun h=>h.2⟩
      ·rw[if_neg hc];congr 1;symm;rw[decide_eq_false_iff_not];exact fun h=>hc h.1
     ·rw[if_neg ha,if_neg ha,iI,iI,am,am]
      have hq:byB n (bhB n A.1) ⟨p,a⟩=decide (0≤reB n (bhB n A.1) p∧reB n (bhB n A.1) p≤a):=rfl
      rw[hq]
      by_cases c1:0≤reB n (bhB n A.1) p
      ·rw[if_pos c1]
       by_cases c2:reB n (bhB n A.1) p≤a
       ·rw[if_pos c2,decide_eq_true ⟨c1,c2⟩,Bool.true_and]
       ·rw[if_neg c2,decide_eq_false (fun h=>c2 h.2),Bool.false_and]
      ·rw[if_neg c1,decide_eq_false (fun h=>c1 h.1),Bool.false_and]
   ·rw[if_pos (pD.2 hp),decide_eq_false hp,Bool.false_and]
theorem mr_s {n:Network} (ht:n.tot≤1048576) (l:List Scan) (hl:l.length≤1048576) (x a:Int) (t:Trip):kG G.real TE.real n l x a t=some (mrB n l x a t):=by
 have hA:=@nz n l x a
 have hB:=@yS n l x a
 unfold kG mrB
 rw[HC ht l hl,Hg ht l hl,af,af]
 generalize laB n l x a=A at hA ⊢
 generalize nxB n l x a=B at hB ⊢
 simp only[eB,CR ht,af]
 cases hT:jY n t with
 |false=>rfl
 |true=>
  have hT2:=hT
  unfold jY at hT2
  rw[Bool.and_eq_true] at hT2
  have hn:=lu ht hT2.1
  obtain⟨r1,r2,r3,r4⟩:=gm (n:=n) (de ht) hT2.2
  have hst:aU G.real TE.real n t=some (stN n t.Leg t.Day):=jd hn r1 r2 r3 r4
  have hen:bw G.real TE.real n t=some (enN n t.Leg t.Day):=tQ hn r1 r2 r3 r4
  simp only[hst,hen,af,F5 ht,qN ht (de ht),zp ht]
  rw[vt ht hB a]
  unfold mrC
  rw[bd,bB,iI,am,am,Bool.true_and]
  by_cases c1:a<stN n t.Leg t.Day
  ·rw[if_pos c1,decide_eq_false (p:=stN n t.Leg t.Day≤a) (by omega)];rfl
  ·rw[if_neg c1,decide_eq_true (p:=stN n t.Leg t.Day≤a) (by omega),Bool.true_and]
   by_cases c2:enN n t.Leg t.Day≤a
   ·rw[if_pos c2,decide_eq_false (p:=a<enN n t.Leg t.Day) (by omega)];rfl
   ·rw[if_neg c2,decide_eq_true (p:=a<enN n t.Leg t.Day) (by omega),Bool.true_and]
    cases hA2:A.2 with
    |false=>rw[gX,if_neg (by simp)]
    |true=>
     rw[z5 ht (hA hA2) a,bd,cB,am,if_pos rfl]
     by_cases h4:A.1.Kind=4
     ·rw[if_pos h4,if_pos h4]
     ·rw[if_neg h4,if_neg h4]
      by_cases hb:isB n B a
      ·rw[if_pos hb,if_pos hb,cB,cB,Ep]
      ·rw[if_neg hb,if_neg hb]
       by_cases ha:isA n A a
       ·rw[if_pos ha,if_pos ha,cB,cB,Ep]
       ·rw[if_neg ha,if_neg ha,ag r1,aQ,ar (c8 r1 r2),bB,bB,am,am,ag r1]
        have hq:byB n (bhB n A.1) ⟨(fw n t.Leg).From,stN n t.Leg t.Day⟩=decide (0≤reB n (bhB n A.1) (fw n t.Leg).From∧reB n (bhB n A.1) (fw n t.Leg).From≤stN n t.Leg t.Day):=rfl
        rw[hq]
        by_cases d1:reB n (bhB n A.1) (fw n t.Leg).From<0
        ·rw[if_pos d1,decide_eq_false (fun h=>by omega),Bool.false_and]
        ·rw[if_neg d1]
         by_cases d2:stN n t.Leg t.Day<reB n (bhB n A.1) (fw n t.Leg).From
         ·rw[if_pos d2,decide_eq_false (fun h=>by omega),Bool.false_and]
         ·rw[if_neg d2,decide_eq_true ⟨by omega,by omega⟩,Bool.true_and]
end Go.Vs
