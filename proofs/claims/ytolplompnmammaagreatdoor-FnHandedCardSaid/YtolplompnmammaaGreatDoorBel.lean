/- Part of the proofs of this seat's laws: Bel. No condition. -/
import Derived.Test.YtolplompnmammaaGreatDoorSoA
import Derived.Test.YtolplompnmammaaGreatDoorLac
import Derived.Test.YtolplompnmammaaGreatDoorLaa
import Derived.Test.YtolplompnmammaaGreatDoorLad
import Derived.Test.YtolplompnmammaaGreatDoorHa
set_option linter.unusedVariables false
set_option linter.unusedSimpArgs false
set_option linter.unusedSectionVars false
namespace Go.Vs
open Go.IntWalk
end Go.Vs
namespace Go.Vs
open Go.IntWalk
theorem AR {n:Network} (ht:n.tot≤1048576):(plc n).length≤4194304:=by
 have:=dp n
 have:=eo ht
 omega
theorem AQ {n:Network} {l:List Scan} {x:Int} {s:Scan} (h:s∈cnB n l x):scB n s=true:=by
 have h1:=(mT n _ _).subset h
 have h2:=(pM _ _).subset (List.mem_filter.1 h1).1
 have h3:=(List.mergeSort_perm (okS n l) leS).subset h2
 exact(List.mem_filter.1 h3).2
theorem yc {l:List Scan} {o:Option Scan} (h:∀s,o=some s→s∈l):(opS o).2=true→(opS o).1∈l:=by
 cases o with
 |none=>intro h;cases h
 |some s=>intro _;exact h s rfl
theorem CT {n:Network} {l:List Scan} {x a:Int} (h:(laB n l x a).2=true):(laB n l x a).1∈cnB n l x:=
 yc (fun s h=>by have:=List.mem_of_find?_eq_some h;simpa using this) h
theorem C6 {n:Network} {l:List Scan} {x a:Int} (h:(nxB n l x a).2=true):(nxB n l x a).1∈cnB n l x:=
 yc (fun s h=>List.mem_of_find?_eq_some h) h
theorem qM {n:Network} {l:List Scan} {x a:Int} (h:(laB n l x a).2=true):scB n (laB n l x a).1=true:=AQ (CT h)
theorem Et {n:Network} {l:List Scan} {x a:Int} (h:(nxB n l x a).2=true):scB n (nxB n l x a).1=true:=AQ (C6 h)
theorem Db {α:Type} {n:Network} (ht:n.tot≤1048576) {B:Scan×Bool} (hB:B.2=true→scB n B.1=true) (a:Int) (yes no:Option α):
 br B.2 (br (G.real.eq B.1.Kind 2) (cl (dd G.real TE.real n (Trip.mk B.1.Trip.Leg B.1.Trip.Day)) fun x=>br (G.real.le x a) yes no) no) no=if B.2=true∧B.1.Kind=2∧stN n B.1.Trip.Leg B.1.Trip.Day≤a then yes else no:=by
 cases hb:B.2 with
 |false=>rw[jX,if_neg (by simp)]
 |true=>
  rw[cP,eu,ao]
  by_cases hk:B.1.Kind=2
  ·obtain⟨hn,_,r1,r2,r3,r4⟩:=gc ht (lU (hB hb)) (.inr hk)
   rw[if_pos hk,lw hn r1 r2 r3 r4,ag,jU,ao]
   by_cases hs:stN n B.1.Trip.Leg B.1.Trip.Day≤a
   ·rw[if_pos hs,if_pos ⟨rfl,hk,hs⟩]
   ·rw[if_neg hs,if_neg (fun h=>hs h.2.2)]
  ·rw[if_neg hk,if_neg (fun h=>hk h.2.1)]
theorem C1 {α:Type} {n:Network} (ht:n.tot≤1048576) {B:Scan×Bool} (hB:B.2=true→scB n B.1=true) (a:Int) (yes no:Option α):
 br B.2 (br (G.real.eq B.1.Kind 2) (cl (cO G.real TE.real n (Trip.mk B.1.Trip.Leg B.1.Trip.Day)) fun x=>br (G.real.le x a) yes no) no) no=if B.2=true∧B.1.Kind=2∧stN n B.1.Trip.Leg B.1.Trip.Day≤a then yes else no:=by
 rw[←Db ht hB a yes no]
 cases hb:B.2 with
 |false=>rfl
 |true=>
  rw[cP,cP,eu,ao,ao]
  by_cases hk:B.1.Kind=2
  ·obtain⟨hn,_,r1,r2,r3,r4⟩:=gc ht (lU (hB hb)) (.inr hk)
   rw[if_pos hk,if_pos hk,lw hn r1 r2 r3 r4,iU hn r1 r2 r3 r4]
  ·rw[if_neg hk,if_neg hk]
theorem Da {α:Type} {n:Network} (ht:n.tot≤1048576) {A:Scan×Bool} (hA:scB n A.1=true) (a:Int) (yes no:Option α):
 br (G.real.eq A.1.Kind 3) (cl (fi G.real TE.real n (Trip.mk A.1.Trip.Leg A.1.Trip.Day)) fun x=>br (G.real.lt a x) yes no) no=if A.1.Kind=3∧a<enN n A.1.Trip.Leg A.1.Trip.Day then yes else no:=by
 rw[eu,ao]
 by_cases hk:A.1.Kind=3
 ·obtain⟨hn,_,r1,r2,r3,r4⟩:=gc ht (lU hA) (.inl hk)
  rw[if_pos hk,sR hn r1 r2 r3 r4,ag,eh,ao]
  by_cases hs:a<enN n A.1.Trip.Leg A.1.Trip.Day
  ·rw[if_pos hs,if_pos ⟨hk,hs⟩]
  ·rw[if_neg hs,if_neg (fun h=>hs h.2)]
 ·rw[if_neg hk,if_neg (fun h=>hk h.1)]
end Go.Vs
namespace Go.Vs
open Go.IntWalk
def sp0:Spot:=⟨.empty,0⟩
abbrev isB (n:Network) (B:Scan×Bool) (a:Int):Prop:=B.2=true∧B.1.Kind=2∧stN n B.1.Trip.Leg B.1.Trip.Day≤a
abbrev isA (n:Network) (A:Scan×Bool) (a:Int):Prop:=A.1.Kind=3∧a<enN n A.1.Trip.Leg A.1.Trip.Day
def knB (n:Network) (A B:Scan×Bool) (a:Int):Know:=
 if A.2=true then
  if A.1.Kind=4 then⟨n,a,false,.empty,⟨0,0⟩,false,false,sp0,sp0,false⟩
  else if isB n B a then⟨n,a,true,(ej n B.1.Trip.Leg).To,B.1.Trip,decide (a<enN n B.1.Trip.Leg B.1.Trip.Day),false,sp0,sp0,false⟩
  else if isA n A a then⟨n,a,true,(ej n A.1.Trip.Leg).From,A.1.Trip,decide (stN n A.1.Trip.Leg A.1.Trip.Day≤a),false,sp0,sp0,false⟩
  else⟨n,a,false,.empty,⟨0,0⟩,false,true,bhB n A.1,bfB n B.1,B.2⟩
 else⟨n,a,false,.empty,⟨0,0⟩,false,false,sp0,sp0,false⟩
theorem F8 {n:Network} (ht:n.tot≤1048576) (l:List Scan) (hl:l.length≤1048576) (x a:Int):ig G.real TE.real n l x a=some (knB n (laB n l x a) (nxB n l x a) a):=by
 have hA:=@qM n l x a
 have hB:=@Et n l x a
 unfold ig
 rw[E2 ht l hl,nx_i ht l hl,ag,ag]
 generalize laB n l x a=A at hA ⊢
 generalize nxB n l x a=B at hB ⊢
 simp only[f5,Fg ht,Gj ht,ag]
 rw[C1 ht hB a]
 unfold knB
 cases hA2:A.2 with
 |false=>rfl
 |true=>
  have hA1:=hA hA2
  rw[Da ht hA1 a,cP,eu,ao,if_pos rfl]
  by_cases h4:A.1.Kind=4
  ·rw[if_pos h4,if_pos h4];rfl
  ·rw[if_neg h4,if_neg h4]
   by_cases hb:isB n B a
   ·obtain⟨hn,_,r1,r2,r3,r4⟩:=gc ht (lU (hB hb.1)) (.inr hb.2.1)
    rw[if_pos hb,if_pos hb,sR hn r1 r2 r3 r4,ag,ak r1,bS,aw (ec r1 r2),eh];rfl
   ·rw[if_neg hb,if_neg hb]
    by_cases ha:isA n A a
    ·obtain⟨hn,_,r1,r2,r3,r4⟩:=gc ht (lU hA1) (.inl ha.1)
     rw[if_pos ha,if_pos ha,iU hn r1 r2 r3 r4,ag,ak r1,bS,aw (ec r1 r2),jU];rfl
    ·rw[if_neg ha,if_neg ha]
theorem yw {n:Network} (ht:n.tot≤1048576) (s p:ByteArray) (a b:Int) (h0:0≤a):d6 G.real TE.real n s a p b=some (byB n ⟨s,a⟩ ⟨p,b⟩):=by
 unfold d6 byB reB
 simp only[fk,ao,jU,eu]
 rw[FX ht (eo ht),ag]
 by_cases h:s=p
 ·rw[if_pos h,if_pos h]
  congr 1
  simp only[decide_eq_decide]
  omega
 ·rw[if_neg h,if_neg h]
  have hg:=DM ht s p a
  by_cases h1:eaB n s p a= -1
  ·rw[if_pos h1]
   congr 1
   simp only[Bool.false_eq,decide_eq_false_iff_not]
   omega
  ·rw[if_neg h1]
   congr 1
   simp only[decide_eq_decide]
   omega
def mbC (n:Network) (A B:Scan×Bool) (a:Int) (p:ByteArray):Bool:=
 if A.2=true then
  if A.1.Kind=4 then false
  else if isB n B a then decide (enN n B.1.Trip.Leg B.1.Trip.Day≤a∧p=(ej n B.1.Trip.Leg).To)
  else if isA n A a then decide (a<stN n A.1.Trip.Leg A.1.Trip.Day∧p=(ej n A.1.Trip.Leg).From)
  else byB n (bhB n A.1) ⟨p,a⟩&&(!B.2||byB n ⟨p,a⟩ (bfB n B.1))
 else false
def mrC (n:Network) (A B:Scan×Bool) (a:Int) (t:Trip):Bool:=
 decide (stN n t.Leg t.Day≤a)&&(decide (a<enN n t.Leg t.Day)&&
 (if A.2=true then
  if A.1.Kind=4 then false
  else if isB n B a then decide (B.1.Trip.Leg=t.Leg∧B.1.Trip.Day=t.Day)
  else if isA n A a then decide (A.1.Trip.Leg=t.Leg∧A.1.Trip.Day=t.Day)
  else byB n (bhB n A.1) ⟨(ej n t.Leg).From,stN n t.Leg t.Day⟩&&(!B.2||byB n ⟨(ej n t.Leg).To,enN n t.Leg t.Day⟩ (bfB n B.1))
 else false))
theorem Gi {n:Network} {s:Spot} {p:ByteArray} {a:Int} (h:byB n s ⟨p,a⟩=true):0≤a:=by
 unfold byB at h
 simp only[decide_eq_true_eq] at h
 omega
theorem Fj (a b c d:Int):G.real.all [decide (a=b),decide (c=d)]=decide (a=b∧c=d):=by
 rw[vJ]
 simp only[List.all_cons,List.all_nil,id,Bool.and_true,←Bool.decide_and]
theorem yA {n:Network} (ht:n.tot≤1048576) {A B:Scan×Bool} (hA:A.2=true→scB n A.1=true) (a:Int) (p:ByteArray):
 ar G.real TE.real (knB n A B a) p=some (mbC n A B a p):=by
 unfold ar knB mbC
 by_cases h2:A.2=true
 ·simp only[if_pos h2]
  by_cases h4:A.1.Kind=4
  ·simp only[if_pos h4];rfl
  ·simp only[if_neg h4]
   by_cases hb:isB n B a
   ·simp only[if_pos hb,cP,ao,fk]
    by_cases hc:a<enN n B.1.Trip.Leg B.1.Trip.Day
    ·rw[if_pos hc];congr 1;symm;rw[decide_eq_false_iff_not];omega
    ·rw[if_neg hc];congr 1;rw[decide_eq_decide]
     exact⟨fun h=>⟨by omega,h.symm⟩,fun h=>h.2.symm⟩
   ·simp only[if_neg hb]
    by_cases ha:isA n A a
    ·simp only[if_pos ha,cP,ao,fk]
     by_cases hc:stN n A.1.Trip.Leg A.1.Trip.Day≤a
     ·rw[if_pos hc];congr 1;symm;rw[decide_eq_false_iff_not];omega
     ·rw[if_neg hc];congr 1;rw[decide_eq_decide]
      exact⟨fun h=>⟨by omega,h.symm⟩,fun h=>h.2.symm⟩
    ·simp only[if_neg ha,jX,cP]
     rw[show(Network.mk n.Legs n.Off n.Change)=n from rfl,yw ht _ _ _ _ (B8 ht (hA h2)).2.1,ag]
     show br (byB n (bhB n A.1) ⟨p,a⟩) _ _=_
     cases h1:byB n (bhB n A.1) ⟨p,a⟩ with
     |false=>rfl
     |true=>
      rw[cP,yw ht _ _ _ _ (Gi h1),ag]
      cases B.2<;>rfl
 ·simp only[if_neg h2];rfl
theorem Ay {n:Network} (ht:n.tot≤1048576) {A B:Scan×Bool} (hA:A.2=true→scB n A.1=true) (a:Int) {t:Trip} (hT:fw n t=true):
 au G.real TE.real (knB n A B a) t=some (mrC n A B a t):=by
 unfold fw at hT
 rw[Bool.and_eq_true] at hT
 have hn:=gZ ht hT.1
 obtain⟨r1,r2,r3,r4⟩:=dM (n:=n) (eo ht) hT.2
 obtain⟨q1,q2,q3,q4⟩:=mo hn r1 r2 r3 r4
 have e1:∀(u:Trip),u.Leg=t.Leg∧u.Day=t.Day→stN n u.Leg u.Day=stN n t.Leg t.Day∧enN n u.Leg u.Day=enN n t.Leg t.Day:=fun u h=>by rw[h.1,h.2];exact⟨rfl,rfl⟩
 unfold au knB mrC
 by_cases h2:A.2=true
 ·simp only[if_pos h2]
  by_cases h4:A.1.Kind=4
  ·simp only[if_pos h4];rw[jX,ak r1,bS,aw (ec r1 r2),jX];simp
  ·simp only[if_neg h4]
   by_cases hb:isB n B a
   ·simp only[if_pos hb,cP,ao,eu]
    rw[Fj]
    have hb3:=hb.2.2
    by_cases hc:a<enN n B.1.Trip.Leg B.1.Trip.Day
    ·rw[if_pos hc];congr 1
     by_cases he:B.1.Trip.Leg=t.Leg∧B.1.Trip.Day=t.Day
     ·obtain⟨e2,e3⟩:=e1 _ he
      rw[decide_eq_true he,decide_eq_true (by omega),decide_eq_true (by omega)];rfl
     ·rw[decide_eq_false he];simp
    ·rw[if_neg hc];congr 1
     by_cases he:B.1.Trip.Leg=t.Leg∧B.1.Trip.Day=t.Day
     ·obtain⟨e2,e3⟩:=e1 _ he
      rw[decide_eq_false (p:=a<enN n t.Leg t.Day) (by omega)];simp
     ·rw[decide_eq_false he];simp
   ·simp only[if_neg hb]
    by_cases ha:isA n A a
    ·simp only[if_pos ha,cP,ao,eu]
     rw[Fj]
     have ha2:=ha.2
     by_cases hc:stN n A.1.Trip.Leg A.1.Trip.Day≤a
     ·rw[if_pos hc];congr 1
      by_cases he:A.1.Trip.Leg=t.Leg∧A.1.Trip.Day=t.Day
      ·obtain⟨e2,e3⟩:=e1 _ he
       rw[decide_eq_true he,decide_eq_true (by omega),decide_eq_true (by omega)];rfl
      ·rw[decide_eq_false he];simp
     ·rw[if_neg hc];congr 1
      by_cases he:A.1.Trip.Leg=t.Leg∧A.1.Trip.Day=t.Day
      ·obtain⟨e2,e3⟩:=e1 _ he
       rw[decide_eq_false (p:=stN n t.Leg t.Day≤a) (by omega)];simp
      ·rw[decide_eq_false he];simp
    ·simp only[if_neg ha,jX,cP]
     rw[show(Network.mk n.Legs n.Off n.Change)=n from rfl,ak r1,bS,aw (ec r1 r2),iU hn r1 r2 r3 r4,ag,sR hn r1 r2 r3 r4,ag,ag,eh,jU,ao,ao,yw ht _ _ _ _ (B8 ht (hA h2)).2.1,ag,ag,yw ht _ _ _ _ (by omega),ag]
     by_cases c1:a<stN n t.Leg t.Day
     ·rw[if_pos c1,decide_eq_false (p:=stN n t.Leg t.Day≤a) (by omega)];rfl
     ·rw[if_neg c1,decide_eq_true (p:=stN n t.Leg t.Day≤a) (by omega)]
      by_cases c2:enN n t.Leg t.Day≤a
      ·rw[if_pos c2,decide_eq_false (p:=a<enN n t.Leg t.Day) (by omega)];rfl
      ·rw[if_neg c2,decide_eq_true (p:=a<enN n t.Leg t.Day) (by omega),Bool.true_and,Bool.true_and]
       show br (byB n (bhB n A.1) _) _ _=_
       cases byB n (bhB n A.1) ⟨(ej n t.Leg).From,stN n t.Leg t.Day⟩ with
       |false=>rfl
       |true=>cases B.2<;>rfl
 ·simp only[if_neg h2];rw[jX,ak r1,bS,aw (ec r1 r2),jX];simp
def mbB (n:Network) (l:List Scan) (x a:Int) (p:ByteArray):Bool:=decide (p∈plc n)&&mbC n (laB n l x a) (nxB n l x a) a p
def mrB (n:Network) (l:List Scan) (x a:Int) (t:Trip):Bool:=fw n t&&mrC n (laB n l x a) (nxB n l x a) a t
theorem AL {n:Network} {l:List Scan} {x a:Int} (h:netB n=false):(laB n l x a).2=false:=by
 cases hA:(laB n l x a).2 with
 |false=>rfl
 |true=>have:=(lU (qM hA)).net;rw[h] at this;cases this
theorem BJ {n:Network} {A B:Scan×Bool} {a:Int} {p:ByteArray} (h:A.2=false):mbC n A B a p=false:=by
 unfold mbC;rw[h];rfl
theorem Fl {n:Network} (ht:n.tot≤1048576) (l:List Scan) (hl:l.length≤1048576) (x a:Int) (p:ByteArray):il G.real TE.real n l x a p=some (mbB n l x a p):=by
 unfold il mbB
 simp only[sk ht,vr (eo ht),ag,bd,se (AR ht),F8 ht l hl,jU,ao,nU]
 cases hb:netB n with
 |false=>rw[BJ (AL hb),Bool.and_false];rfl
 |true=>
  rw[cP]
  by_cases hp:p∈plc n
  ·rw[if_pos hp,decide_eq_true hp,Bool.true_and]
   exact(congrArg (fun o=>cl o fun z=>some z) (yA ht qM a p)).trans rfl
  ·rw[if_neg hp,decide_eq_false hp];rfl
end Go.Vs
namespace Go.Vs
open Go.IntWalk
def rdL (n:Network) (l:List Scan) (x a d:Int):List Leg→Int→List Trip
 |[],_=>[]
 |_::ls,k=>if mrB n l x a ⟨k,d⟩=true then⟨k,d⟩::rdL n l x a d ls (k+1) else rdL n l x a d ls (k+1)
def rdD (n:Network) (l:List Scan) (x a:Int):Nat→Int→List Trip
 |0,_=>[]
 |m+1,d=>rdL n l x a d n.Legs 0++rdD n l x a m (d+1)
def beB (n:Network) (l:List Scan) (x a:Int):Belief:=⟨(plc n).filter (mbB n l x a),(rdD n l x a 61 0).take 60⟩
theorem ou {α:Type} {w m:List α} {k:Nat} (h:w.length=k):(w++m).take k=w:=by rw[←h,List.take_left]
theorem qV {n:Network} (ht:n.tot≤1048576) (hb:netB n=true) (l:List Scan) (x a d:Int):∀(ls:List Leg) (k:Int) (w:List Trip),0≤k→k+ls.length≤4194304→w.length≤60→
 bF G.real TE.real n d (knB n (laB n l x a) (nxB n l x a) a) ls k w=some ((w++rdL n l x a d ls k).take 60)
 |[],k,w,_,_,h=>by rw[bF,rdL,List.append_nil,List.take_of_length_le h]
 |z::ls,k,w,h0,h1,h=>by
  simp only[List.length_cons] at h1
  rw[bF,rdL]
  simp only[pW,eG,eh,bd,bB,ao,wM (eo ht),ag]
  have hm:∀(h:runsB n k d=true),(au G.real TE.real (Know.mk (Network.mk (knB n (laB n l x a) (nxB n l x a) a).n.Legs (knB n (laB n l x a) (nxB n l x a) a).n.Off (knB n (laB n l x a) (nxB n l x a) a).n.Change) (knB n (laB n l x a) (nxB n l x a) a).at_ (knB n (laB n l x a) (nxB n l x a) a).known (knB n (laB n l x a) (nxB n l x a) a).place (Trip.mk (knB n (laB n l x a) (nxB n l x a) a).ride.Leg (knB n (laB n l x a) (nxB n l x a) a).ride.Day) (knB n (laB n l x a) (nxB n l x a) a).rides (knB n (laB n l x a) (nxB n l x a) a).free (Spot.mk (knB n (laB n l x a) (nxB n l x a) a).from_.Place (knB n (laB n l x a) (nxB n l x a) a).from_.At) (Spot.mk (knB n (laB n l x a) (nxB n l x a) a).to.Place (knB n (laB n l x a) (nxB n l x a) a).to.At) (knB n (laB n l x a) (nxB n l x a) a).more) ⟨k,d⟩)=some (mrB n l x a ⟨k,d⟩):=fun h=>by
   have hT:fw n ⟨k,d⟩=true:=by unfold fw;rw[hb,h];rfl
   have:=Ay ht (A:=laB n l x a) (B:=nxB n l x a) qM a hT
   unfold mrB
   rw[hT,Bool.true_and]
   exact this
  by_cases hw:w.length<60
  ·rw[if_pos (by omega),w64 (by omega) (by omega)]
   cases hr:runsB n k d with
   |true=>
    rw[cP,hm hr,ag]
    cases hc:mrB n l x a ⟨k,d⟩ with
    |true=>rw[cP,ak (by simp;omega),qV ht hb l x a d ls _ _ (by omega) (by omega) (by simp;omega),if_pos rfl];simp
    |false=>rw[jX,qV ht hb l x a d ls _ _ (by omega) (by omega) h,if_neg (by simp)]
   |false=>
    have hc:mrB n l x a ⟨k,d⟩=false:=by unfold mrB fw;rw[hr];simp
    rw[jX,qV ht hb l x a d ls _ _ (by omega) (by omega) h,if_neg (by simp[hc])]
  ·rw[if_neg (by omega),w64 (by omega) (by omega),qV ht hb l x a d ls _ _ (by omega) (by omega) h,ou (by omega),ou (by omega)]
theorem AF {n:Network} (ht:n.tot≤1048576) (hb:netB n=true) (l:List Scan) (x a:Int):∀(m:Nat) (d:Int) (w:List Trip),0≤d→d+m≤4194304→w.length≤60→
 da G.real TE.real n (knB n (laB n l x a) (nxB n l x a) a) m d w=some ((w++rdD n l x a m d).take 60)
 |0,d,w,_,_,h=>by rw[da,rdD,List.append_nil,List.take_of_length_le h]
 |m+1,d,w,h0,h1,h=>by
  have:=eo ht
  rw[da,rdD,qV ht hb l x a d _ _ _ (by omega) (by omega) h,ag,bB,w64 (by omega) (by omega),AF ht hb l x a m _ _ (by omega) (by omega) (by simp;omega)]
  congr 1
  rw[←List.append_assoc]
  generalize w++rdL n l x a d n.Legs 0=u
  by_cases hu:u.length≤60
  ·rw[List.take_of_length_le hu]
  ·rw[ou (by simp;omega),List.take_append_of_le_length (by omega)]
theorem xy {n:Network} (ht:n.tot≤1048576) (l:List Scan) (x a:Int) (p:List ByteArray) (hp:p.length≤4194304) (hs:∀z∈p,z∈plc n):∀(m k:Nat) (w:List ByteArray),k+m=p.length→w.length≤k→
 cz G.real TE.real (knB n (laB n l x a) (nxB n l x a) a) p m (k:Int) w=some (w++(p.drop k).filter (mbB n l x a))
 |0,k,w,h,_=>by rw[cz,List.drop_of_length_le (by omega)];simp
 |m+1,k,w,h,hw=>by
  have hk:k<p.length:=by omega
  rw[cz]
  have hm:(ar G.real TE.real (Know.mk (Network.mk (knB n (laB n l x a) (nxB n l x a) a).n.Legs (knB n (laB n l x a) (nxB n l x a) a).n.Off (knB n (laB n l x a) (nxB n l x a) a).n.Change) (knB n (laB n l x a) (nxB n l x a) a).at_ (knB n (laB n l x a) (nxB n l x a) a).known (knB n (laB n l x a) (nxB n l x a) a).place (Trip.mk (knB n (laB n l x a) (nxB n l x a) a).ride.Leg (knB n (laB n l x a) (nxB n l x a) a).ride.Day) (knB n (laB n l x a) (nxB n l x a) a).rides (knB n (laB n l x a) (nxB n l x a) a).free (Spot.mk (knB n (laB n l x a) (nxB n l x a) a).from_.Place (knB n (laB n l x a) (nxB n l x a) a).from_.At) (Spot.mk (knB n (laB n l x a) (nxB n l x a) a).to.Place (knB n (laB n l x a) (nxB n l x a) a).to.At) (knB n (laB n l x a) (nxB n l x a) a).more) p[k])=some (mbB n l x a p[k]):=by
   have:=yA ht (A:=laB n l x a) (B:=nxB n l x a) qM a p[k]
   unfold mbB
   rw[decide_eq_true (hs _ (List.getElem_mem hk)),Bool.true_and]
   exact this
  simp only[bS,Int.toNat_natCast,bB,bd]
  rw[aw (List.getElem?_eq_getElem hk),hm,ag,w64 (by omega) (by omega),show(k:Int)+1=((k+1:Nat):Int) from by omega,List.drop_eq_getElem_cons hk,List.filter_cons]
  cases hb:mbB n l x a p[k] with
  |true=>rw[cP,ak (by simp;omega),xy ht l x a p hp hs m (k+1) _ (by omega) (by simp;omega),if_pos rfl];simp
  |false=>rw[jX,xy ht l x a p hp hs m (k+1) _ (by omega) (by omega),if_neg (by simp)]
theorem CB {n:Network} {l:List Scan} {x a d:Int} (h:netB n=false):∀(ls:List Leg) (k:Int),rdL n l x a d ls k=[]
 |[],_=>rfl
 |z::ls,k=>by
  rw[rdL,if_neg (by unfold mrB fw;rw[h];simp),CB h ls]
theorem CE {n:Network} {l:List Scan} {x a:Int} (h:netB n=false):∀(m:Nat) (d:Int),rdD n l x a m d=[]
 |0,_=>rfl
 |m+1,d=>by rw[rdD,CB h,CE h m];rfl
theorem BX {n:Network} {l:List Scan} {x a:Int} (h:netB n=false):beB n l x a=⟨[],[]⟩:=by
 unfold beB
 rw[CE h,show(plc n).filter (mbB n l x a)=[] from by
  rw[List.filter_eq_nil_iff]
  intro p _
  unfold mbB
  rw[BJ (AL h)];simp]
 rfl
theorem Fs {n:Network} (ht:n.tot≤1048576) (l:List Scan) (hl:l.length≤1048576) (x a:Int):go G.real TE.real n l x a=some (beB n l x a):=by
 have hp:=AR ht
 unfold go
 rw[sk ht,ag]
 cases hb:netB n with
 |false=>rw[jX,BX hb]
 |true=>
  rw[cP,F8 ht l hl,ag,vr (eo ht),ag]
  simp only[hJ,eG]
  have hc:ap 0 ((plc n).length:Int)=(plc n).length:=by unfold ap;omega
  rw[ak (by omega),hc,show(0:Int)=((0:Nat):Int) from rfl,xy ht l x a _ hp (fun _ h=>h) _ 0 [] (by omega) (by simp),ag,show fh ((0:Nat):Int) 60=61 from rfl,AF ht hb l x a 61 _ [] (by omega) (by omega) (by simp),ag,List.nil_append,List.nil_append,List.drop_zero]
  rfl
theorem rm {α:Type} (f:α→Nat) (c:Nat):∀(l:List α),(∀y∈l,f y≤c)→rM f l≤c*l.length
 |[],_=>Nat.zero_le _
 |y::l,h=>by
  have h1:=rm f c l fun z hz=>h z (List.mem_cons_of_mem _ hz)
  have h2:=h y (List.mem_cons_self ..)
  unfold rM at h1 ⊢
  rw[List.map_cons,List.sum_cons,List.length_cons,Nat.mul_add]
  omega
theorem zf {n:Network} (ht:n.tot≤1048576) (hb:netB n=true):(plc n).length≤40∧∀p∈plc n,p.size≤3:=by
 have hn:=gZ ht hb
 have:=dp n
 have:=hn.len
 refine⟨by omega,fun p hp=>?_⟩
 obtain⟨z,hz,h⟩:=(e8 n p).1 hp
 have hk:=hn.legs z hz
 rcases h with rfl|rfl
 ·exact Nat.le_of_eq hk.from3
 ·exact Nat.le_of_eq hk.to3
theorem CM {n:Network} (ht:n.tot≤1048576) (hb:netB n=true) {w:List ByteArray} (h:w.Sublist (plc n)):w.length+rM (fun y=>y.size) w≤160:=by
 obtain⟨h1,h2⟩:=zf ht hb
 have h3:=h.length_le
 have h4:=rm (fun y:ByteArray=>y.size) 3 w fun y hy=>h2 y (h.subset hy)
 omega
theorem xT {n:Network} (ht:n.tot≤1048576) (l:List Scan) (x a:Int):(beB n l x a).tot≤1048576:=by
 cases hb:netB n with
 |false=>rw[BX hb];exact Nat.zero_le _
 |true=>
  have h1:=CM ht hb (List.filter_sublist (p:=mbB n l x a) (l:=plc n))
  have h2:((rdD n l x a 61 0).take 60).length≤60:=by simp;omega
  unfold Belief.tot beB
  dsimp only
  omega
def meB (n:Network) (l:List Scan) (x y a:Int):List ByteArray:=(plc n).filter fun p=>mbB n l y a p&&mbB n l x a p
theorem wF {n:Network} (ht:n.tot≤1048576) (l:List Scan) (hl:l.length≤1048576) (y a:Int) (b:Belief) (hp:b.Places.length≤4194304):∀(m k:Nat) (w:List ByteArray),k+m=b.Places.length→w.length≤k→
 ed G.real TE.real n l y a b m (k:Int) w=some (w++(b.Places.drop k).filter (mbB n l y a))
 |0,k,w,h,_=>by rw[ed,List.drop_of_length_le (by omega)];simp
 |m+1,k,w,h,hw=>by
  have hk:k<b.Places.length:=by omega
  rw[ed]
  simp only[bS,Int.toNat_natCast,bB,bd,Fl ht l hl,ag]
  rw[aw (List.getElem?_eq_getElem hk),w64 (by omega) (by omega),show(k:Int)+1=((k+1:Nat):Int) from by omega,List.drop_eq_getElem_cons hk,List.filter_cons]
  cases hb:mbB n l y a b.Places[k] with
  |true=>rw[cP,ak (by simp;omega),wF ht l hl y a b hp m (k+1) _ (by omega) (by simp;omega),if_pos rfl];simp
  |false=>rw[jX,wF ht l hl y a b hp m (k+1) _ (by omega) (by omega),if_neg (by simp)]
theorem Fa {n:Network} (ht:n.tot≤1048576) (l:List Scan) (hl:l.length≤1048576) (x y a:Int):lA G.real TE.real n l x y a=some (meB n l x y a):=by
 have hp:(beB n l x a).Places.length≤4194304:=by
  have:=xT ht l x a
  unfold Belief.tot at this
  omega
 unfold lA
 simp only[bd,Fs ht l hl,ag,hJ,eG]
 have hc:ap 0 ((beB n l x a).Places.length:Int)=(beB n l x a).Places.length:=by unfold ap;omega
 rw[ak (by omega),hc,show(0:Int)=((0:Nat):Int) from rfl,wF ht l hl y a _ hp _ 0 [] (by omega) (by simp),ag,List.nil_append,List.drop_zero]
 congr 1
 unfold beB meB
 dsimp only
 rw[List.filter_filter]
end Go.Vs
