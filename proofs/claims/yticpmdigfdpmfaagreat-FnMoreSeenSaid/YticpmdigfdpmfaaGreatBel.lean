/- Part of the proofs of this seat's laws: Bel. No condition. -/
import Derived.Test.YticpmdigfdpmfaaGreatSoA
import Derived.Test.YticpmdigfdpmfaaGreatLad
import Derived.Test.YticpmdigfdpmfaaGreatLae
import Derived.Test.YticpmdigfdpmfaaGreatRea
import Derived.Test.YticpmdigfdpmfaaGreatHa
set_option linter.unusedVariables false
set_option linter.unusedSimpArgs false
set_option linter.unusedSectionVars false
namespace Go.Vs
open Go.IntWalk
end Go.Vs
namespace Go.Vs
open Go.IntWalk
theorem EO {n:Network} (ht:n.tot≤1048576):(plc n).length≤4194304:=by
 have:=cZ n
 have:=eX ht
 omega
theorem Cl {n:Network} {l:List Scan} {x:Int} {s:Scan} (h:s∈cnB n l x):scB n s=true:=by
 have h1:=(nA n _ _).subset h
 have h2:=(pI _ _).subset (List.mem_filter.1 h1).1
 have h3:=(List.mergeSort_perm (okS n l) leS).subset h2
 exact(List.mem_filter.1 h3).2
theorem y9 {l:List Scan} {o:Option Scan} (h:∀s,o=some s→s∈l):(opS o).2=true→(opS o).1∈l:=by
 cases o with
 |none=>intro h;cases h
 |some s=>intro _;exact h s rfl
theorem Dl {n:Network} {l:List Scan} {x a:Int} (h:(laB n l x a).2=true):(laB n l x a).1∈cnB n l x:=
 y9 (fun s h=>by have:=List.mem_of_find?_eq_some h;simpa using this) h
theorem Du {n:Network} {l:List Scan} {x a:Int} (h:(nxB n l x a).2=true):(nxB n l x a).1∈cnB n l x:=
 y9 (fun s h=>List.mem_of_find?_eq_some h) h
theorem uz {n:Network} {l:List Scan} {x a:Int} (h:(laB n l x a).2=true):scB n (laB n l x a).1=true:=Cl (Dl h)
theorem Fb {n:Network} {l:List Scan} {x a:Int} (h:(nxB n l x a).2=true):scB n (nxB n l x a).1=true:=Cl (Du h)
theorem DI {α:Type} {n:Network} (ht:n.tot≤1048576) {B:Scan×Bool} (hB:B.2=true→scB n B.1=true) (a:Int) (yes no:Option α):
 br B.2 (br (G.real.eq B.1.Kind 2) (cl (dY G.real TE.real n (Trip.mk B.1.Trip.Leg B.1.Trip.Day)) fun x=>br (G.real.le x a) yes no) no) no=if B.2=true∧B.1.Kind=2∧stN n B.1.Trip.Leg B.1.Trip.Day≤a then yes else no:=by
 cases hb:B.2 with
 |false=>rw[lJ,if_neg (by simp)]
 |true=>
  rw[c7,dM,am]
  by_cases hk:B.1.Kind=2
  ·obtain⟨hn,_,r1,r2,r3,r4⟩:=gl ht (lL (hB hb)) (.inr hk)
   rw[if_pos hk,mY hn r1 r2 r3 r4,af,jI,am]
   by_cases hs:stN n B.1.Trip.Leg B.1.Trip.Day≤a
   ·rw[if_pos hs,if_pos ⟨rfl,hk,hs⟩]
   ·rw[if_neg hs,if_neg (fun h=>hs h.2.2)]
  ·rw[if_neg hk,if_neg (fun h=>hk h.2.1)]
theorem D2 {α:Type} {n:Network} (ht:n.tot≤1048576) {B:Scan×Bool} (hB:B.2=true→scB n B.1=true) (a:Int) (yes no:Option α):
 br B.2 (br (G.real.eq B.1.Kind 2) (cl (ci G.real TE.real n (Trip.mk B.1.Trip.Leg B.1.Trip.Day)) fun x=>br (G.real.le x a) yes no) no) no=if B.2=true∧B.1.Kind=2∧stN n B.1.Trip.Leg B.1.Trip.Day≤a then yes else no:=by
 rw[←DI ht hB a yes no]
 cases hb:B.2 with
 |false=>rfl
 |true=>
  rw[c7,c7,dM,am,am]
  by_cases hk:B.1.Kind=2
  ·obtain⟨hn,_,r1,r2,r3,r4⟩:=gl ht (lL (hB hb)) (.inr hk)
   rw[if_pos hk,if_pos hk,mY hn r1 r2 r3 r4,iS hn r1 r2 r3 r4]
  ·rw[if_neg hk,if_neg hk]
theorem DT {α:Type} {n:Network} (ht:n.tot≤1048576) {A:Scan×Bool} (hA:scB n A.1=true) (a:Int) (yes no:Option α):
 br (G.real.eq A.1.Kind 3) (cl (eu G.real TE.real n (Trip.mk A.1.Trip.Leg A.1.Trip.Day)) fun x=>br (G.real.lt a x) yes no) no=if A.1.Kind=3∧a<enN n A.1.Trip.Leg A.1.Trip.Day then yes else no:=by
 rw[dM,am]
 by_cases hk:A.1.Kind=3
 ·obtain⟨hn,_,r1,r2,r3,r4⟩:=gl ht (lL hA) (.inl hk)
  rw[if_pos hk,qp hn r1 r2 r3 r4,af,ea,am]
  by_cases hs:a<enN n A.1.Trip.Leg A.1.Trip.Day
  ·rw[if_pos hs,if_pos ⟨hk,hs⟩]
  ·rw[if_neg hs,if_neg (fun h=>hs h.2)]
 ·rw[if_neg hk,if_neg (fun h=>hk h.1)]
end Go.Vs
namespace Go.Vs
open Go.IntWalk
def sp0:Spot:=⟨.empty,0⟩
abbrev isB (n:Network) (B:Scan×Bool) (a:Int):Prop:=B.2=true∧B.1.Kind=2∧stN n B.1.Trip.Leg B.1.Trip.Day≤a
abbrev isA (n:Network) (A:Scan×Bool) (a:Int):Prop:=A.1.Kind=3∧a<enN n A.1.Trip.Leg A.1.Trip.Day
def knB (n:Network) (A B:Scan×Bool) (a:Int):Know:=
 if A.2=true then
  if A.1.Kind=4 then⟨n,a,false,.empty,⟨0,0⟩,false,false,sp0,sp0,false⟩
  else if isB n B a then⟨n,a,true,(lgOf n B.1.Trip.Leg).To,B.1.Trip,decide (a<enN n B.1.Trip.Leg B.1.Trip.Day),false,sp0,sp0,false⟩
  else if isA n A a then⟨n,a,true,(lgOf n A.1.Trip.Leg).From,A.1.Trip,decide (stN n A.1.Trip.Leg A.1.Trip.Day≤a),false,sp0,sp0,false⟩
  else⟨n,a,false,.empty,⟨0,0⟩,false,true,bhB n A.1,bfB n B.1,B.2⟩
 else⟨n,a,false,.empty,⟨0,0⟩,false,false,sp0,sp0,false⟩
theorem kn_i {n:Network} (ht:n.tot≤1048576) (l:List Scan) (hl:l.length≤1048576) (x a:Int):jK G.real TE.real n l x a=some (knB n (laB n l x a) (nxB n l x a) a):=by
 have hA:=@uz n l x a
 have hB:=@Fb n l x a
 unfold jK
 rw[la_i ht l hl,nx_i ht l hl,af,af]
 generalize laB n l x a=A at hA ⊢
 generalize nxB n l x a=B at hB ⊢
 simp only[f5,Hv ht,Ga ht,af]
 rw[D2 ht hB a]
 unfold knB
 cases hA2:A.2 with
 |false=>rfl
 |true=>
  have hA1:=hA hA2
  rw[DT ht hA1 a,c7,dM,am,if_pos rfl]
  by_cases h4:A.1.Kind=4
  ·rw[if_pos h4,if_pos h4];rfl
  ·rw[if_neg h4,if_neg h4]
   by_cases hb:isB n B a
   ·obtain⟨hn,_,r1,r2,r3,r4⟩:=gl ht (lL (hB hb.1)) (.inr hb.2.1)
    rw[if_pos hb,if_pos hb,qp hn r1 r2 r3 r4,af,ah r1,bE,ar (cU r1 r2),ea];rfl
   ·rw[if_neg hb,if_neg hb]
    by_cases ha:isA n A a
    ·obtain⟨hn,_,r1,r2,r3,r4⟩:=gl ht (lL hA1) (.inl ha.1)
     rw[if_pos ha,if_pos ha,iS hn r1 r2 r3 r4,af,ah r1,bE,ar (cU r1 r2),jI];rfl
    ·rw[if_neg ha,if_neg ha]
theorem zg {n:Network} (ht:n.tot≤1048576) (s p:ByteArray) (a b:Int) (h0:0≤a):dO G.real TE.real n s a p b=some (byB n ⟨s,a⟩ ⟨p,b⟩):=by
 unfold dO byB reB
 simp only[fT,am,jI,dM]
 rw[Hx ht (eX ht),af]
 by_cases h:s=p
 ·rw[if_pos h,if_pos h]
  congr 1
  simp only[decide_eq_decide]
  omega
 ·rw[if_neg h,if_neg h]
  have hg:=Et ht s p a
  by_cases h1:eaB n s p a= -1
  ·rw[if_pos h1]
   congr 1
   simp only[Bool.false_eq,decide_eq_false_iff_not]
   omega
  ·rw[if_neg h1]
   congr 1
   simp only[decide_eq_decide]
   omega
def mbC (n:Network) (A B:Scan×Bool) (a:Int) (p:ByteArray):Bool:=
 if A.2=true then
  if A.1.Kind=4 then false
  else if isB n B a then decide (enN n B.1.Trip.Leg B.1.Trip.Day≤a∧p=(lgOf n B.1.Trip.Leg).To)
  else if isA n A a then decide (a<stN n A.1.Trip.Leg A.1.Trip.Day∧p=(lgOf n A.1.Trip.Leg).From)
  else byB n (bhB n A.1) ⟨p,a⟩&&(!B.2||byB n ⟨p,a⟩ (bfB n B.1))
 else false
def mrC (n:Network) (A B:Scan×Bool) (a:Int) (t:Trip):Bool:=
 decide (stN n t.Leg t.Day≤a)&&(decide (a<enN n t.Leg t.Day)&&
 (if A.2=true then
  if A.1.Kind=4 then false
  else if isB n B a then decide (B.1.Trip.Leg=t.Leg∧B.1.Trip.Day=t.Day)
  else if isA n A a then decide (A.1.Trip.Leg=t.Leg∧A.1.Trip.Day=t.Day)
  else byB n (bhB n A.1) ⟨(lgOf n t.Leg).From,stN n t.Leg t.Day⟩&&(!B.2||byB n ⟨(lgOf n t.Leg).To,enN n t.Leg t.Day⟩ (bfB n B.1))
 else false))
theorem Ew {n:Network} {s:Spot} {p:ByteArray} {a:Int} (h:byB n s ⟨p,a⟩=true):0≤a:=by
 unfold byB at h
 simp only[decide_eq_true_eq] at h
 omega
theorem EJ (a b c d:Int):G.real.all [decide (a=b),decide (c=d)]=decide (a=b∧c=d):=by
 rw[yv]
 simp only[List.all_cons,List.all_nil,id,Bool.and_true,←Bool.decide_and]
theorem Dw {n:Network} (ht:n.tot≤1048576) {A B:Scan×Bool} (hA:A.2=true→scB n A.1=true) (a:Int) (p:ByteArray):
 au G.real TE.real (knB n A B a) p=some (mbC n A B a p):=by
 unfold au knB mbC
 by_cases h2:A.2=true
 ·simp only[if_pos h2]
  by_cases h4:A.1.Kind=4
  ·simp only[if_pos h4];rfl
  ·simp only[if_neg h4]
   by_cases hb:isB n B a
   ·simp only[if_pos hb,c7,am,fT]
    by_cases hc:a<enN n B.1.Trip.Leg B.1.Trip.Day
    ·rw[if_pos hc];congr 1;symm;rw[decide_eq_false_iff_not];omega
    ·rw[if_neg hc];congr 1;rw[decide_eq_decide]
     exact⟨fun h=>⟨by omega,h.symm⟩,fun h=>h.2.symm⟩
   ·simp only[if_neg hb]
    by_cases ha:isA n A a
    ·simp only[if_pos ha,c7,am,fT]
     by_cases hc:stN n A.1.Trip.Leg A.1.Trip.Day≤a
     ·rw[if_pos hc];congr 1;symm;rw[decide_eq_false_iff_not];omega
     ·rw[if_neg hc];congr 1;rw[decide_eq_decide]
      exact⟨fun h=>⟨by omega,h.symm⟩,fun h=>h.2.symm⟩
    ·simp only[if_neg ha,lJ,c7]
     rw[show(Network.mk n.Legs n.Off n.Change)=n from rfl,zg ht _ _ _ _ (C9 ht (hA h2)).2.1,af]
     show br (byB n (bhB n A.1) ⟨p,a⟩) _ _=_
     cases h1:byB n (bhB n A.1) ⟨p,a⟩ with
     |false=>rfl
     |true=>
      rw[c7,zg ht _ _ _ _ (Ew h1),af]
      cases B.2<;>rfl
 ·simp only[if_neg h2];rfl
theorem zS {n:Network} (ht:n.tot≤1048576) {A B:Scan×Bool} (hA:A.2=true→scB n A.1=true) (a:Int) {t:Trip} (hT:dR n t=true):
 aq G.real TE.real (knB n A B a) t=some (mrC n A B a t):=by
 unfold dR at hT
 rw[Bool.and_eq_true] at hT
 have hn:=iE ht hT.1
 obtain⟨r1,r2,r3,r4⟩:=cY (n:=n) (eX ht) hT.2
 obtain⟨q1,q2,q3,q4⟩:=jg hn r1 r2 r3 r4
 have e1:∀(u:Trip),u.Leg=t.Leg∧u.Day=t.Day→stN n u.Leg u.Day=stN n t.Leg t.Day∧enN n u.Leg u.Day=enN n t.Leg t.Day:=fun u h=>by rw[h.1,h.2];exact⟨rfl,rfl⟩
 unfold aq knB mrC
 by_cases h2:A.2=true
 ·simp only[if_pos h2]
  by_cases h4:A.1.Kind=4
  ·simp only[if_pos h4];rw[lJ,ah r1,bE,ar (cU r1 r2),lJ];simp
  ·simp only[if_neg h4]
   by_cases hb:isB n B a
   ·simp only[if_pos hb,c7,am,dM]
    rw[EJ]
    have hb3:=hb.2.2
    by_cases hc:a<enN n B.1.Trip.Leg B.1.Trip.Day
    ·rw[if_pos hc];congr 1
     by_cases he:B.1.Trip.Leg=t.Leg∧B.1.Trip.Day=t.Day
     ·obtain⟨e2,e3⟩:=e1 _ he
      rw[decide_eq_true he,decide_eq_true (by omega),decide_eq_true (by omega)];rfl
     ·rw[decide_eq_false he];simp
    ·rw[if_neg hc];congr 1
     by_cases he:B.1.Trip.Leg=t.Leg∧B.1.Trip.Day=t.Day
     ·obtain⟨e2,e3⟩:=e1 _ he
      rw[decide_eq_false (p:=a<enN n t.Leg t.Day) (by omega)];simp
     ·rw[decide_eq_false he];simp
   ·simp only[if_neg hb]
    by_cases ha:isA n A a
    ·simp only[if_pos ha,c7,am,dM]
     rw[EJ]
     have ha2:=ha.2
     by_cases hc:stN n A.1.Trip.Leg A.1.Trip.Day≤a
     ·rw[if_pos hc];congr 1
      by_cases he:A.1.Trip.Leg=t.Leg∧A.1.Trip.Day=t.Day
      ·obtain⟨e2,e3⟩:=e1 _ he
       rw[decide_eq_true he,decide_eq_true (by omega),decide_eq_true (by omega)];rfl
      ·rw[decide_eq_false he];simp
     ·rw[if_neg hc];congr 1
      by_cases he:A.1.Trip.Leg=t.Leg∧A.1.Trip.Day=t.Day
      ·obtain⟨e2,e3⟩:=e1 _ he
       rw[decide_eq_false (p:=stN n t.Leg t.Day≤a) (by omega)];simp
      ·rw[decide_eq_false he];simp
    ·simp only[if_neg ha,lJ,c7]
     rw[show(Network.mk n.Legs n.Off n.Change)=n from rfl,ah r1,bE,ar (cU r1 r2),iS hn r1 r2 r3 r4,af,qp hn r1 r2 r3 r4,af,af,ea,jI,am,am,zg ht _ _ _ _ (C9 ht (hA h2)).2.1,af,af,zg ht _ _ _ _ (by omega),af]
     by_cases c1:a<stN n t.Leg t.Day
     ·rw[if_pos c1,decide_eq_false (p:=stN n t.Leg t.Day≤a) (by omega)];rfl
     ·rw[if_neg c1,decide_eq_true (p:=stN n t.Leg t.Day≤a) (by omega)]
      by_cases c2:enN n t.Leg t.Day≤a
      ·rw[if_pos c2,decide_eq_false (p:=a<enN n t.Leg t.Day) (by omega)];rfl
      ·rw[if_neg c2,decide_eq_true (p:=a<enN n t.Leg t.Day) (by omega),Bool.true_and,Bool.true_and]
       show br (byB n (bhB n A.1) _) _ _=_
       cases byB n (bhB n A.1) ⟨(lgOf n t.Leg).From,stN n t.Leg t.Day⟩ with
       |false=>rfl
       |true=>cases B.2<;>rfl
 ·simp only[if_neg h2];rw[lJ,ah r1,bE,ar (cU r1 r2),lJ];simp
def mbB (n:Network) (l:List Scan) (x a:Int) (p:ByteArray):Bool:=decide (p∈plc n)&&mbC n (laB n l x a) (nxB n l x a) a p
def mrB (n:Network) (l:List Scan) (x a:Int) (t:Trip):Bool:=dR n t&&mrC n (laB n l x a) (nxB n l x a) a t
theorem Fz {n:Network} {l:List Scan} {x a:Int} (h:netB n=false):(laB n l x a).2=false:=by
 cases hA:(laB n l x a).2 with
 |false=>rfl
 |true=>have:=(lL (uz hA)).net;rw[h] at this;cases this
theorem EC {n:Network} {A B:Scan×Bool} {a:Int} {p:ByteArray} (h:A.2=false):mbC n A B a p=false:=by
 unfold mbC;rw[h];rfl
end Go.Vs
namespace Go.Vs
open Go.IntWalk
theorem sE {n:Network} {F P Q:List Scan} {th now:Int} (hc:cnB n F th=F) (hF:F=P++Q) (h1:∀s∈P,s.At≤now) (h2:∀s∈Q,now<s.At):laB n F th now=opS P.getLast? ∧nxB n F th now=opS Q.head? :=by
 have p1:P.filter (fun s=>decide (s.At≤now))=P:=List.filter_eq_self.2 fun s hs=>by simpa using h1 s hs
 have p2:Q.filter (fun s=>decide (s.At≤now))=[]:=List.filter_eq_nil_iff.2 fun s hs=>by have:=h2 s hs;simp;omega
 have p3:P.filter (fun s=>decide (now<s.At))=[]:=List.filter_eq_nil_iff.2 fun s hs=>by have:=h1 s hs;simp;omega
 have p4:Q.filter (fun s=>decide (now<s.At))=Q:=List.filter_eq_self.2 fun s hs=>by simpa using h2 s hs
 have f1:(P++Q).filter (fun s=>decide (s.At≤now))=P:=by rw[List.filter_append,p1,p2,List.append_nil]
 have f2:(P++Q).filter (fun s=>decide (now<s.At))=Q:=by rw[List.filter_append,p3,p4,List.nil_append]
 unfold laB nxB
 rw[hc,Ai,←List.head?_filter,hF,f1,f2]
 exact⟨rfl,rfl⟩
section
variable {n:Network} {th w now:Int} {p x y:ByteArray} {w1 w2:List Trip}
structure Ahd (n:Network) (th now:Int) (w1 w2:List Trip) (y:ByteArray) (A:Scan):Prop where
 sc:scB n A=true
 kind:A.Kind≠4
 load:A.Kind=3→∃t∈w1,A.Trip=t
 by_:∀t∈w2,byB n (bhB n A) ⟨(lgOf n t.Leg).From,stN n t.Leg t.Day⟩=true
 end_:byB n (bhB n A) ⟨y,now⟩=true
theorem mZ {x:ByteArray} {a u:Int} (h0:0≤a) (h1:a≤u):byB n ⟨x,a⟩ ⟨x,u⟩=true:=by
 unfold byB reB
 rw[decide_eq_true_eq]
 dsimp only
 rw[if_pos rfl]
 exact⟨h0,h1⟩
theorem ahead (hn:NetOk n) (hb:netB n=true) (hth:1≤th∧th≤9999) (hx:x∈plc n) (h0:0≤w) (h1:w≤100000) (hp:gn n p x w (w1++w2)) (hw:w≤now) (hle:∀t∈w1,enN n t.Leg t.Day≤now):
 ∃y b,gn n p y b w2∧y∈plc n∧w≤b∧(∀A∈heS th w x::stl n th w1,Ahd n th now w1 w2 y A)∧(w1=[]→y=x)∧∀l0 t,w1=l0++[t]→y=(lgOf n t.Leg).To:=by
 obtain⟨y,b,s1,s2,s3,s4⟩:=j7 hp
 have hc:=hn.change
 obtain⟨i1,i2⟩:=ff hn hb hth hp
 have hhe:=yg hb hth hx h0 h1
 have pt:=ba hn hp
 have hlast:w1=[]∨∃l0 t,w1=l0++[t]:=by
  rcases List.eq_nil_or_concat w1 with h|⟨l0,t,h⟩
  ·exact .inl h
  ·exact .inr ⟨l0,t,by simpa using h⟩
 have hy:y∈plc n:=by
  rcases hlast with h|⟨l0,t,h⟩
  ·rw[(s3 h).1];exact hx
  ·rw[(s4 t l0 h).1]
   exact(pt t (by rw[h];simp)).2.2.2.2.2.2
 have hbw:w≤b:=by
  rcases hlast with h|⟨l0,t,h⟩
  ·rw[(s3 h).2];exact Int.le_refl _
  ·rw[(s4 t l0 h).2]
   have:=pt t (by rw[h];simp)
   omega
 refine⟨y,b,s2,hy,hbw,fun A hA=>?_,fun h=>(s3 h).1,fun l0 t h=>(s4 t l0 h).1⟩
 rcases List.mem_cons.1 hA with rfl|hA
 ·refine⟨hhe,by show(1:Int)≠4;omega,fun h=>by have:(1:Int)=3:=h;omega,fun t ht=>?_,?_⟩
  ·rw[uO hhe]
   exact(ib hn hb hx h0 h1 hp t (by simp[ht])).1 _ (Int.le_refl _)
  ·rw[uO hhe]
   rcases hlast with h|⟨l0,t,h⟩
   ·rw[(s3 h).1];exact mZ h0 hw
   ·rw[(s4 t l0 h).1]
    exact(ib hn hb hx h0 h1 hp t (by rw[h];simp)).2 _ (hle t (by rw[h];simp))
 ·obtain⟨t0,ht0,hA2⟩:=dh hA
  have hsc:scB n A=true:=(i2 A (by rw[lv];exact List.mem_append_left _ hA)).2.2.2
  obtain⟨l1,l2,rfl⟩:=List.append_of_mem ht0
  have hbh:bhB n A=⟨(lgOf n t0.Leg).To,enN n t0.Leg t0.Day⟩:=by
   rcases hA2 with rfl|rfl
   ·exact tB hsc
   ·exact rh hsc
  obtain⟨q1,q2,q3,q4,q5,q6,q7⟩:=pt t0 (by simp)
  have hp2:gn n p x w ((l1++[t0])++(l2++w2)):=by simpa using hp
  obtain⟨y',b',c1,c2,c3,c4⟩:=j7 hp2
  obtain⟨e1,e2⟩:=c4 t0 l1 rfl
  rw[e1,e2] at c2
  have hby:=ib hn hb q7 (by omega) (by omega) (lB (b:=enN n t0.Leg t0.Day) (by omega) c2)
  refine⟨hsc,?_,fun hk=>⟨t0,by simp,?_⟩,fun t ht=>?_,?_⟩
  ·rcases hA2 with rfl|rfl
   ·show(3:Int)≠4;omega
   ·show(2:Int)≠4;omega
  ·rcases hA2 with rfl|rfl
   ·rfl
   ·rfl
  ·rw[hbh]
   exact(hby t (by simp[ht])).1 _ (Int.le_refl _)
  ·rw[hbh]
   rcases List.eq_nil_or_concat l2 with h|⟨l0,t,h⟩
   ·subst h
    rw[(s4 t0 l1 rfl).1]
    exact mZ (by omega) (hle t0 (by simp))
   ·have h:l2=l0++[t]:=by simpa using h
    subst h
    rw[(s4 t (l1++t0::l0) (by simp)).1]
    exact(hby t (by simp)).2 _ (hle t (by simp))
theorem xz {s:Scan} (hs:s∈stl n th w2) (hsc:scB n s=true):∃t∈w2,s.Trip=t∧bfB n s=⟨(lgOf n t.Leg).From,stN n t.Leg t.Day⟩:=by
 obtain⟨t,ht,h⟩:=dh hs
 rcases h with rfl|rfl
 ·exact⟨t,ht,rfl,Cv hsc⟩
 ·exact⟨t,ht,rfl,yB hsc⟩
theorem pP {A:Scan} {K:List Scan}:∃B∈A::K,(A::K).getLast? =some B:=by
 refine⟨(A::K).getLast (by simp),List.getLast_mem _,List.getLast?_eq_some_getLast _⟩
theorem Ee (hn:NetOk n) (hb:netB n=true) (hth:1≤th∧th≤9999) (hx:x∈plc n) (h0:0≤w) (h1:w≤100000) {t:Trip} {w3:List Trip} (hp:gn n p x w (w1++t::w3)) (hle:∀t∈w1,enN n t.Leg t.Day≤now) (hst:stN n t.Leg t.Day≤now) (hen:now<enN n t.Leg t.Day)
 {K1 K2:List Scan} (k1:K1.Sublist (stl n th w1)) (k2:K2.Sublist (stl n th (t::w3))) (hS:Seen n (heS th w x::(K1++K2)) th):
 mrB n (heS th w x::(K1++K2)) th now t=true:=by
 have hc:=hn.change
 have ptt:=ba hn hp t (by simp)
 obtain⟨y',b,a1,a2,a3,a4,a5,a6⟩:=ahead hn hb hth hx h0 h1 hp (by omega) hle
 obtain⟨i1,i2⟩:=ff hn hb hth hp
 rw[lv] at i2
 have pt3:=ba hn a1.2.2.2
 have pt1:=ba hn hp
 have hP1:∀s∈heS th w x::K1,s.At≤now:=fun s hs=>by
  rcases List.mem_cons.1 hs with rfl|hs
  ·show w≤now;omega
  ·obtain⟨u,hu,h⟩:=dh (k1.subset hs)
   have h2:=hle u hu
   have h3:=(pt1 u (by simp[hu])).2.2.1
   rcases h with rfl|rfl
   ·show stN n u.Leg u.Day≤now;omega
   ·exact h2
 have hQ3:∀s∈drS n th t::stl n th w3,now<s.At:=fun s hs=>by
  rcases List.mem_cons.1 hs with rfl|hs
  ·exact hen
  ·obtain⟨u,hu,h⟩:=dh hs
   have h2:=pt3 u hu
   rcases h with rfl|rfl
   ·show now<stN n u.Leg u.Day;omega
   ·show now<enN n u.Leg u.Day;omega
 have hrest:∀u∈w3,byB n ⟨(lgOf n t.Leg).To,enN n t.Leg t.Day⟩ ⟨(lgOf n u.Leg).From,stN n u.Leg u.Day⟩=true:=fun u hu=>
  (ib hn hb ptt.2.2.2.2.2.2 (by omega) (by omega) (lB (by omega) a1.2.2.2) u hu).1 _ (Int.le_refl _)
 have htrip:dR n t=true:=by unfold dR;rw[hb,ptt.1];rfl
 have go:∀{A:Scan} {Q:List Scan},Q.Sublist (drS n th t::stl n th w3)→laB n (heS th w x::(K1++K2)) th now=(A,true)→nxB n (heS th w x::(K1++K2)) th now=opS Q.head? →A.Kind≠4→(A=ldS n th t∨Ahd n th now w1 (t::w3) y' A)→mrB n (heS th w x::(K1++K2)) th now t=true:=by
  intro A Q hQ l1 l2 hA4 hA
  unfold mrB mrC
  rw[l1,l2,htrip,decide_eq_true hst,decide_eq_true hen,if_pos rfl,if_neg hA4]
  simp only[Bool.true_and]
  by_cases hB:isB n (opS Q.head?) now
  ·rw[if_pos hB,decide_eq_true_eq]
   cases hQe:Q with
   |nil=>rw[hQe] at hB;cases hB.1
   |cons B Q'=>
    rw[hQe] at hB
    have hBm:B∈drS n th t::stl n th w3:=hQ.subset (by rw[hQe];simp)
    rcases List.mem_cons.1 hBm with rfl|hBm
    ·exact⟨rfl,rfl⟩
    ·exfalso
     have h3:stN n B.Trip.Leg B.Trip.Day≤now:=hB.2.2
     obtain⟨u,hu,h⟩:=dh hBm
     have h2:=pt3 u hu
     rcases h with rfl|rfl
     ·have h3:stN n u.Leg u.Day≤now:=h3
      omega
     ·have h3:stN n u.Leg u.Day≤now:=h3
      omega
  ·rw[if_neg hB]
   by_cases hAA:isA n (A,true) now
   ·rw[if_pos hAA,decide_eq_true_eq]
    rcases hA with rfl|hA
    ·exact⟨rfl,rfl⟩
    ·exfalso
     obtain⟨u,hu,e⟩:=hA.load hAA.1
     have h2:now<enN n A.Trip.Leg A.Trip.Day:=hAA.2
     rw[e] at h2
     have:=hle u hu
     omega
   ·rw[if_neg hAA]
    rcases hA with rfl|hA
    ·exact absurd ⟨rfl,hen⟩ hAA
    ·rw[hA.by_ t (by simp),Bool.true_and]
     cases hQe:Q with
     |nil=>rfl
     |cons B Q'=>
      rw[hQe] at hB
      have hBm:B∈drS n th t::stl n th w3:=hQ.subset (by rw[hQe];simp)
      rcases List.mem_cons.1 hBm with rfl|hBm
      ·exact absurd ⟨rfl,rfl,hst⟩ hB
      ·have hBsc:scB n B=true:=(i2 B (List.mem_append_right _ (by simp[stl,hBm]))).2.2.2
       obtain⟨u,hu,e1,e2⟩:=xz hBm hBsc
       show(!true||byB n ⟨(lgOf n t.Leg).To,enN n t.Leg t.Day⟩ (bfB n B))=true
       rw[e2,hrest u hu];rfl
 cases k2 with
 |cons _ k2=>
  obtain⟨l1,l2⟩:=sE (n:=n) (th:=th) hS.cn (P:=heS th w x::K1) (Q:=K2) (by simp) hP1 (fun s hs=>hQ3 s (k2.subset hs))
  obtain⟨A,hA,eA⟩:=pP (A:=heS th w x) (K:=K1)
  have hA4:=a4 A (by
   rcases List.mem_cons.1 hA with h|h
   ·simp[h]
   ·exact List.mem_cons_of_mem _ (k1.subset h))
  rw[eA] at l1
  exact go k2 l1 l2 hA4.kind (.inr hA4)
 |@cons_cons K3 _ _ k2=>
  obtain⟨l1,l2⟩:=sE (n:=n) (th:=th) hS.cn (P:=heS th w x::K1++[ldS n th t]) (Q:=K3) (by simp) (fun s hs=>by
   rcases List.mem_append.1 hs with hs|hs
   ·exact hP1 s hs
   ·rw[List.mem_singleton.1 hs];exact hst) (fun s hs=>hQ3 s (k2.subset hs))
  rw[List.getLast?_append] at l1
  exact go k2 l1 l2 (by show(3:Int)≠4;omega) (.inl rfl)
end
end Go.Vs
namespace Go.Vs
open Go.IntWalk
def rdL (n:Network) (l:List Scan) (x a d:Int):List Leg→Int→List Trip
 |[],_=>[]
 |_::ls,k=>if mrB n l x a ⟨k,d⟩=true then⟨k,d⟩::rdL n l x a d ls (k+1) else rdL n l x a d ls (k+1)
def rdD (n:Network) (l:List Scan) (x a:Int):Nat→Int→List Trip
 |0,_=>[]
 |m+1,d=>rdL n l x a d n.Legs 0++rdD n l x a m (d+1)
def beB (n:Network) (l:List Scan) (x a:Int):Belief:=⟨(plc n).filter (mbB n l x a),(rdD n l x a 61 0).take 60⟩
theorem nY {α:Type} {w m:List α} {k:Nat} (h:w.length=k):(w++m).take k=w:=by rw[←h,List.take_left]
theorem rQ {n:Network} (ht:n.tot≤1048576) (hb:netB n=true) (l:List Scan) (x a d:Int):∀(ls:List Leg) (k:Int) (w:List Trip),0≤k→k+ls.length≤4194304→w.length≤60→
 bq G.real TE.real n d (knB n (laB n l x a) (nxB n l x a) a) ls k w=some ((w++rdL n l x a d ls k).take 60)
 |[],k,w,_,_,h=>by rw[bq,rdL,List.append_nil,List.take_of_length_le h]
 |z::ls,k,w,h0,h1,h=>by
  simp only[List.length_cons] at h1
  rw[bq,rdL]
  simp only[mo,eB,ea,aU,bx,am,xJ (eX ht),af]
  have hm:∀(h:runsB n k d=true),(aq G.real TE.real (Know.mk (Network.mk (knB n (laB n l x a) (nxB n l x a) a).n.Legs (knB n (laB n l x a) (nxB n l x a) a).n.Off (knB n (laB n l x a) (nxB n l x a) a).n.Change) (knB n (laB n l x a) (nxB n l x a) a).at_ (knB n (laB n l x a) (nxB n l x a) a).known (knB n (laB n l x a) (nxB n l x a) a).place (Trip.mk (knB n (laB n l x a) (nxB n l x a) a).ride.Leg (knB n (laB n l x a) (nxB n l x a) a).ride.Day) (knB n (laB n l x a) (nxB n l x a) a).rides (knB n (laB n l x a) (nxB n l x a) a).free (Spot.mk (knB n (laB n l x a) (nxB n l x a) a).from_.Place (knB n (laB n l x a) (nxB n l x a) a).from_.At) (Spot.mk (knB n (laB n l x a) (nxB n l x a) a).to.Place (knB n (laB n l x a) (nxB n l x a) a).to.At) (knB n (laB n l x a) (nxB n l x a) a).more) ⟨k,d⟩)=some (mrB n l x a ⟨k,d⟩):=fun h=>by
   have hT:dR n ⟨k,d⟩=true:=by unfold dR;rw[hb,h];rfl
   have:=zS ht (A:=laB n l x a) (B:=nxB n l x a) uz a hT
   unfold mrB
   rw[hT,Bool.true_and]
   exact this
  by_cases hw:w.length<60
  ·rw[if_pos (by omega),w64 (by omega) (by omega)]
   cases hr:runsB n k d with
   |true=>
    rw[c7,hm hr,af]
    cases hc:mrB n l x a ⟨k,d⟩ with
    |true=>rw[c7,ah (by simp;omega),rQ ht hb l x a d ls _ _ (by omega) (by omega) (by simp;omega),if_pos rfl];simp
    |false=>rw[lJ,rQ ht hb l x a d ls _ _ (by omega) (by omega) h,if_neg (by simp)]
   |false=>
    have hc:mrB n l x a ⟨k,d⟩=false:=by unfold mrB dR;rw[hr];simp
    rw[lJ,rQ ht hb l x a d ls _ _ (by omega) (by omega) h,if_neg (by simp[hc])]
  ·rw[if_neg (by omega),w64 (by omega) (by omega),rQ ht hb l x a d ls _ _ (by omega) (by omega) h,nY (by omega),nY (by omega)]
theorem Bs {n:Network} (ht:n.tot≤1048576) (hb:netB n=true) (l:List Scan) (x a:Int):∀(m:Nat) (d:Int) (w:List Trip),0≤d→d+m≤4194304→w.length≤60→
 cJ G.real TE.real n (knB n (laB n l x a) (nxB n l x a) a) m d w=some ((w++rdD n l x a m d).take 60)
 |0,d,w,_,_,h=>by rw[cJ,rdD,List.append_nil,List.take_of_length_le h]
 |m+1,d,w,h0,h1,h=>by
  have:=eX ht
  rw[cJ,rdD,rQ ht hb l x a d _ _ _ (by omega) (by omega) h,af,bx,w64 (by omega) (by omega),Bs ht hb l x a m _ _ (by omega) (by omega) (by simp;omega)]
  congr 1
  rw[←List.append_assoc]
  generalize w++rdL n l x a d n.Legs 0=u
  by_cases hu:u.length≤60
  ·rw[List.take_of_length_le hu]
  ·rw[nY (by simp;omega),List.take_append_of_le_length (by omega)]
theorem xg {n:Network} (ht:n.tot≤1048576) (l:List Scan) (x a:Int) (p:List ByteArray) (hp:p.length≤4194304) (hs:∀z∈p,z∈plc n):∀(m k:Nat) (w:List ByteArray),k+m=p.length→w.length≤k→
 cf G.real TE.real (knB n (laB n l x a) (nxB n l x a) a) p m (k:Int) w=some (w++(p.drop k).filter (mbB n l x a))
 |0,k,w,h,_=>by rw[cf,List.drop_of_length_le (by omega)];simp
 |m+1,k,w,h,hw=>by
  have hk:k<p.length:=by omega
  rw[cf]
  have hm:(au G.real TE.real (Know.mk (Network.mk (knB n (laB n l x a) (nxB n l x a) a).n.Legs (knB n (laB n l x a) (nxB n l x a) a).n.Off (knB n (laB n l x a) (nxB n l x a) a).n.Change) (knB n (laB n l x a) (nxB n l x a) a).at_ (knB n (laB n l x a) (nxB n l x a) a).known (knB n (laB n l x a) (nxB n l x a) a).place (Trip.mk (knB n (laB n l x a) (nxB n l x a) a).ride.Leg (knB n (laB n l x a) (nxB n l x a) a).ride.Day) (knB n (laB n l x a) (nxB n l x a) a).rides (knB n (laB n l x a) (nxB n l x a) a).free (Spot.mk (knB n (laB n l x a) (nxB n l x a) a).from_.Place (knB n (laB n l x a) (nxB n l x a) a).from_.At) (Spot.mk (knB n (laB n l x a) (nxB n l x a) a).to.Place (knB n (laB n l x a) (nxB n l x a) a).to.At) (knB n (laB n l x a) (nxB n l x a) a).more) p[k])=some (mbB n l x a p[k]):=by
   have:=Dw ht (A:=laB n l x a) (B:=nxB n l x a) uz a p[k]
   unfold mbB
   rw[decide_eq_true (hs _ (List.getElem_mem hk)),Bool.true_and]
   exact this
  simp only[bE,Int.toNat_natCast,bx,aU]
  rw[ar (List.getElem?_eq_getElem hk),hm,af,w64 (by omega) (by omega),show(k:Int)+1=((k+1:Nat):Int) from by omega,List.drop_eq_getElem_cons hk,List.filter_cons]
  cases hb:mbB n l x a p[k] with
  |true=>rw[c7,ah (by simp;omega),xg ht l x a p hp hs m (k+1) _ (by omega) (by simp;omega),if_pos rfl];simp
  |false=>rw[lJ,xg ht l x a p hp hs m (k+1) _ (by omega) (by omega),if_neg (by simp)]
theorem B8 {n:Network} {l:List Scan} {x a d:Int} (h:netB n=false):∀(ls:List Leg) (k:Int),rdL n l x a d ls k=[]
 |[],_=>rfl
 |z::ls,k=>by
  rw[rdL,if_neg (by unfold mrB dR;rw[h];simp),B8 h ls]
theorem Cc {n:Network} {l:List Scan} {x a:Int} (h:netB n=false):∀(m:Nat) (d:Int),rdD n l x a m d=[]
 |0,_=>rfl
 |m+1,d=>by rw[rdD,B8 h,Cc h m];rfl
theorem A5 {n:Network} {l:List Scan} {x a:Int} (h:netB n=false):beB n l x a=⟨[],[]⟩:=by
 unfold beB
 rw[Cc h,show(plc n).filter (mbB n l x a)=[] from by
  rw[List.filter_eq_nil_iff]
  intro p _
  unfold mbB
  rw[EC (Fz h)];simp]
 rfl
theorem Gr {n:Network} (ht:n.tot≤1048576) (l:List Scan) (hl:l.length≤1048576) (x a:Int):gL G.real TE.real n l x a=some (beB n l x a):=by
 have hp:=EO ht
 unfold gL
 rw[su ht,af]
 cases hb:netB n with
 |false=>rw[lJ,A5 hb]
 |true=>
  rw[c7,kn_i ht l hl,af,wm (eX ht),af]
  simp only[gN,eB]
  have hc:aA 0 ((plc n).length:Int)=(plc n).length:=by unfold aA;omega
  rw[ah (by omega),hc,show(0:Int)=((0:Nat):Int) from rfl,xg ht l x a _ hp (fun _ h=>h) _ 0 [] (by omega) (by simp),af,show df ((0:Nat):Int) 60=61 from rfl,Bs ht hb l x a 61 _ [] (by omega) (by omega) (by simp),af,List.nil_append,List.nil_append,List.drop_zero]
  rfl
theorem qO {α:Type} (f:α→Nat) (c:Nat):∀(l:List α),(∀y∈l,f y≤c)→rZ f l≤c*l.length
 |[],_=>Nat.zero_le _
 |y::l,h=>by
  have h1:=qO f c l fun z hz=>h z (List.mem_cons_of_mem _ hz)
  have h2:=h y (List.mem_cons_self ..)
  unfold rZ at h1 ⊢
  rw[List.map_cons,List.sum_cons,List.length_cons,Nat.mul_add]
  omega
theorem AN {n:Network} (ht:n.tot≤1048576) (hb:netB n=true):(plc n).length≤40∧∀p∈plc n,p.size≤3:=by
 have hn:=iE ht hb
 have:=cZ n
 have:=hn.len
 refine⟨by omega,fun p hp=>?_⟩
 obtain⟨z,hz,h⟩:=(cw n p).1 hp
 have hk:=hn.legs z hz
 rcases h with rfl|rfl
 ·exact Nat.le_of_eq hk.from3
 ·exact Nat.le_of_eq hk.to3
theorem Ds {n:Network} (ht:n.tot≤1048576) (hb:netB n=true) {w:List ByteArray} (h:w.Sublist (plc n)):w.length+rZ (fun y=>y.size) w≤160:=by
 obtain⟨h1,h2⟩:=AN ht hb
 have h3:=h.length_le
 have h4:=qO (fun y:ByteArray=>y.size) 3 w fun y hy=>h2 y (h.subset hy)
 omega
theorem D0 {n:Network} (ht:n.tot≤1048576) (l:List Scan) (x a:Int):(beB n l x a).tot≤1048576:=by
 cases hb:netB n with
 |false=>rw[A5 hb];exact Nat.zero_le _
 |true=>
  have h1:=Ds ht hb (List.filter_sublist (p:=mbB n l x a) (l:=plc n))
  have h2:((rdD n l x a 61 0).take 60).length≤60:=by simp;omega
  unfold Belief.tot beB
  dsimp only
  omega
end Go.Vs
namespace Go.Vs
open Go.IntWalk
theorem xT {n:Network} {l:List Scan} {x a d:Int}:∀{ls:List Leg} {k k0:Int},mrB n l x a ⟨k0,d⟩=true→k≤k0→k0<k+ls.length→(⟨k0,d⟩:Trip)∈rdL n l x a d ls k
 |[],k,k0,_,h1,h2=>by simp at h2;omega
 |z::ls,k,k0,h,h1,h2=>by
  simp only[List.length_cons] at h2
  rw[rdL]
  by_cases he:k0=k
  ·subst he
   rw[if_pos h];exact List.mem_cons_self ..
  ·have ih:=xT (ls:=ls) (k:=k+1) h (by omega) (by omega)
   split
   ·exact List.mem_cons_of_mem _ ih
   ·exact ih
theorem xZ {n:Network} {l:List Scan} {x a:Int} {t:Trip} (h:mrB n l x a t=true) (h0:0≤t.Leg) (h1:t.Leg<n.Legs.length):∀{m:Nat} {d:Int},d≤t.Day→t.Day<d+m→t∈rdD n l x a m d
 |0,d,h2,h3=>by omega
 |m+1,d,h2,h3=>by
  rw[rdD,List.mem_append]
  by_cases he:t.Day=d
  ·left
   subst he
   exact xT (k0:=t.Leg) h (by omega) (by omega)
  ·right
   exact xZ h h0 h1 (by omega) (by omega)
theorem DA {n:Network} {l:List Scan} {x a:Int} {t:Trip} (hl:(beB n l x a).Rides.length<60) (hlen:n.Legs.length≤1048576) (h:mrB n l x a t=true):t∈(beB n l x a).Rides:=by
 have ht:runsB n t.Leg t.Day=true:=by
  unfold mrB dR at h
  simp only[Bool.and_eq_true] at h
  exact h.1.2
 obtain⟨r1,r2,r3,r4⟩:=cY hlen ht
 have hm:=xZ h r1 r2 (m:=61) (d:=0) r3 (by omega)
 have hl2:((rdD n l x a 61 0).take 60).length<60:=hl
 rw[List.length_take] at hl2
 show t∈(rdD n l x a 61 0).take 60
 rw[List.take_of_length_le (by omega)]
 exact hm
theorem uZ {n:Network} {l:List Scan} {x a:Int} {p:ByteArray}:p∈(beB n l x a).Places↔mbB n l x a p=true:=by
 show p∈(plc n).filter (mbB n l x a)↔_
 rw[List.mem_filter]
 constructor
 ·exact fun h=>h.2
 ·intro h
  refine⟨?_,h⟩
  unfold mbB at h
  simp only[Bool.and_eq_true,decide_eq_true_eq] at h
  exact h.1
theorem tz {n:Network} (now:Int):∀l:List Trip,∃w1 w2,l=w1++w2∧(∀t∈w1,enN n t.Leg t.Day≤now)∧(w2=[]∨∃t w3,w2=t::w3∧now<enN n t.Leg t.Day)
 |[]=>⟨[],[],rfl,by simp,.inl rfl⟩
 |t::l=>by
  by_cases h:enN n t.Leg t.Day≤now
  ·obtain⟨w1,w2,h1,h2,h3⟩:=tz now l
   refine⟨t::w1,w2,by rw[h1];rfl,fun u hu=>?_,h3⟩
   rcases List.mem_cons.1 hu with rfl|hu
   ·exact h
   ·exact h2 u hu
  ·exact⟨[],t::l,rfl,by simp,.inr ⟨t,l,rfl,by omega⟩⟩
theorem Hn {n:Network} (hn:NetOk n) {p x:ByteArray} {w now:Int} {w1 w3:List Trip} {t:Trip} (hp:gn n p x w (w1++t::w3)) (h:now<stN n t.Leg t.Day):∀u∈t::w3,now<stN n u.Leg u.Day:=by
 obtain⟨y,b,_,s2,_,_⟩:=j7 hp
 intro u hu
 have hc:=hn.change
 rcases List.mem_cons.1 hu with rfl|hu
 ·exact h
 ·have:=ba hn s2.2.2.2 u hu
  have:=ba hn s2 t (by simp)
  omega
end Go.Vs
