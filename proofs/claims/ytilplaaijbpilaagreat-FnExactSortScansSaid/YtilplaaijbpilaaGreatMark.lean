/- Part of the proofs of this seat's laws: Mark. No condition. -/
import Derived.Test.YtilplaaijbpilaaGreatVf
import Derived.Test.YtilplaaijbpilaaGreatHb
import Derived.Test.YtilplaaijbpilaaGreatLag
set_option linter.unusedVariables false
set_option linter.unusedSimpArgs false
set_option linter.unusedSectionVars false
namespace Go.Vs
open Go.IntWalk
theorem ng {α β:Type} (pre l:List β) (x:β) (k:β→Option α):gt (pre++x::l) pre.length k=k x:=az (by simp)
theorem k8 {β:Type} (pre l:List β) (x y:β):(pre++x::l).set pre.length y=pre++y::l:=by simp
theorem nc {α β:Type} (pre l:List β) (x:β) (k:Option α):gd ((0:Int)≤(pre.length:Int)∧(pre.length:Int)<((pre++x::l).length:Nat)) k=k:=aj (by simp;omega)
theorem nt {β:Type} (pre l:List β) (x:β):decide ((pre.length:Int)<((pre++x::l).length:Nat))=true:=by simp;omega
theorem t6 {β:Type} (pre:List β):decide ((pre.length:Int)<((pre++[]).length:Nat))=false:=by simp
theorem qL {β:Type} (pre l:List β) (x:β):pre++x::l=(pre++[x])++l:=by simp
theorem qG {β:Type} (pre:List β) (x:β):((pre.length:Nat):Int)+1=(((pre++[x]).length:Nat):Int):=by simp
end Go.Vs
namespace Go.Vs
open Go.IntWalk
set_option linter.unusedVariables false
set_option linter.unusedSimpArgs false
theorem rM:∀(m n:Nat) (v:Int) (s:ByteArray),v<(10:Int)^m→m<n→v≤800000000→s.size+m≤1000→∃r,ef G.real TE.real n v s=some r∧r.size≤s.size+m
 |m,0,v,s,_,h,_,_=>by omega
 |0,n+1,v,s,h,_,_,_=>by
  rw[ef]
  simp only[bv,ao]
  rw[if_neg (by simp at h;omega)]
  exact⟨s,rfl,by omega⟩
 |m+1,n+1,v,s,h,hn,hv,hs=>by
  rw[ef]
  simp only[bv,ao,aA]
  by_cases h0:0<v
  ·rw[if_pos h0]
   have hz:∀x:Int,(G.real.bstr [x]).size=1:=fun x=>by
    have:G.real.bstr [x]=strOfNums [x]:=rfl
    rw[this,strOfNums_size];rfl
   have hp:(10:Int)^(m+1)=(10:Int)^m*10:=by rw[Int.pow_succ]
   have hq:v.tdiv 10<(10:Int)^m:=by
    rw[Int.tdiv_eq_ediv_of_nonneg (by omega)]
    rw[hp] at h
    exact Int.ediv_lt_of_lt_mul (by omega) h
   have hq2:v.tdiv 10≤800000000:=by rw[Int.tdiv_eq_ediv_of_nonneg (by omega)];omega
   have hq3:0≤v.tdiv 10:=by rw[Int.tdiv_eq_ediv_of_nonneg (by omega)];omega
   rw[aj (by rw[hz];omega)]
   have hw:G.real.wrap .i64 (G.real.quo v 10)=v.tdiv 10:=by rw[Gj];exact w64 (by omega) (by omega)
   rw[hw]
   have hc:∀x:Int,(G.real.cat (G.real.bstr [x]) s).size=s.size+1:=fun x=>by rw[H9,ByteArray.size_append,hz];omega
   obtain⟨r,e1,e2⟩:=rM m n (v.tdiv 10) (G.real.cat (G.real.bstr [G.real.wrap .u8 (G.real.wrap .i64 (G.real.add 48 (G.real.rem v 10)))]) s) hq (by omega) hq2 (by rw[hc];omega)
   exact⟨r,e1,by rw[hc] at e2;omega⟩
  ·rw[if_neg h0]
   exact⟨s,rfl,by omega⟩
theorem nA (k:Int) (h0:0≤k) (h1:k≤800000000):∃s,fu G.real TE.real k=some s:=by
 unfold fu
 simp only[kH,ao]
 split
 ·exact⟨_,rfl⟩
 ·obtain⟨r,e1,e2⟩:=rM 9 1000000000 k str_k0 (by omega) (by omega) (by omega) (by show(0:Nat)+9≤1000;omega)
  rw[e1,ag]
  have hz0:(str_k0:ByteArray).size=0:=rfl
  have hz1:(uh:ByteArray).size=1:=rfl
  rw[aj (by omega)]
  exact⟨_,rfl⟩
def nI (l:List ByteArray):Nat:=(l.map fun x=>1).sum
theorem mV (x:ByteArray) (l:List ByteArray):nI (x::l)=(1)+nI l:=by simp[nI]
theorem Eo (l:List ByteArray):∀(pre:List ByteArray) (k:Int) (n:Nat),l.length<n→0≤k→k+(nI l:Nat)≤800000000→pre.length+l.length≤800000000→
 ∃l',cJ G.real TE.real n (pre++l) k pre.length=some (pre++l',k+(nI l:Nat))∧l'.length=l.length∧cG G.real TE.real l' k=some (.out (k+(nI l:Nat))):=by
 induction l with
 |nil=>
  intro pre k n hn h0 hb hp
  cases n with
  |zero=>simp at hn
  |succ n=>
   refine⟨[],?_,rfl,?_⟩
   ·rw[cJ];simp only[hG,bv,cg,t6,jn];simp[nI]
   ·rw[cG];simp[nI]
 |cons z l ih=>
  intro pre k n hn h0 hb hp
  cases n with
  |zero=>simp at hn
  |succ n=>
   simp only[List.length_cons] at hn hp
   rw[mV] at hb
   have wp:G.real.wrap .i64 ((pre.length:Int)+1)=(pre.length:Int)+1:=w64 (by omega) (by omega)
   obtain⟨s1,e1⟩:=nA k (by omega) (by omega)
   have w0:G.real.wrap .i64 (k+1)=k+1:=w64 (by omega) (by omega)
   obtain⟨l',q1,q2,q3⟩:=ih (pre++[(s1)]) (k+1) n (by omega) (by omega) (by omega) (by simp;omega)
   refine⟨(s1)::l',?_,by simp[q2],?_⟩
   ·rw[cJ]
    simp only[hG,bv,cg,aZ,bm,Int.toNat_natCast,nt,ba,nc,ng,aA,k8,ag,w0]
    try rw[e1]
    try simp only[hG,bv,cg,aZ,bm,Int.toNat_natCast,nt,ba,nc,ng,aA,k8,ag,w0]
    try rw[wp]
    rw[qL,qG pre (s1),q1,mV]
    simp only[List.append_assoc,List.singleton_append,Option.some.injEq,Prod.mk.injEq,true_and]
    omega
   ·rw[cG]
    try simp only[co,qR,bv,bm,decide_true,ba,ao,aA,ag,beq_self_eq_true,if_true,w0]
    try rw[e1]
    try simp only[co,qR,bv,bm,decide_true,ba,ao,aA,ag,beq_self_eq_true,if_true,w0]
    rw[q3,mV]
    congr 1
    congr 1
    omega
theorem DY (l:List ByteArray):l.length≤nI l:=by
 induction l with
 |nil=>simp
 |cons x l ih=>rw[mV,List.length_cons];omega
theorem AN (l:List ByteArray):nI l≤16*l.length:=by
 induction l with
 |nil=>simp[nI]
 |cons x l ih=>rw[mV,List.length_cons];omega
theorem Gs (l:List ByteArray) (k:Int) (h0:0≤k) (hb:k+(nI l:Nat)≤800000000) (hl:l.length≤800000000):∃l',gu G.real TE.real l k=some (k+(nI l:Nat),l')∧l'.length=l.length∧fv G.real TE.real l' k=some (k+(nI l:Nat)):=by
 obtain⟨l',q1,q2,q3⟩:=Eo l [] k 1000000000 (by omega) h0 hb (by simp;omega)
 simp only[List.nil_append,List.length_nil] at q1
 refine⟨l',?_,q2,?_⟩
 ·unfold gu;rw[show(0:Int)=((0:Nat):Int) from rfl,q1,ag];dsimp only;rw[aj q2]
 ·unfold fv;simp only[aA,q3,sO,ag,th]
def gb (l:List Trip):Nat:=(l.map fun x=>2).sum
theorem jB (x:Trip) (l:List Trip):gb (x::l)=(2)+gb l:=by simp[gb]
theorem yE (l:List Trip):∀(pre:List Trip) (k:Int) (n:Nat),l.length<n→0≤k→k+(gb l:Nat)≤800000000→pre.length+l.length≤800000000→
 ∃l',dI G.real TE.real n (pre++l) k pre.length=some (pre++l',k+(gb l:Nat))∧l'.length=l.length∧dE G.real TE.real l' k=.out (k+(gb l:Nat)):=by
 induction l with
 |nil=>
  intro pre k n hn h0 hb hp
  cases n with
  |zero=>simp at hn
  |succ n=>
   refine⟨[],?_,rfl,?_⟩
   ·rw[dI];simp only[lO,bv,cg,t6,jn];simp[gb]
   ·rw[dE];simp[gb]
 |cons z l ih=>
  intro pre k n hn h0 hb hp
  cases n with
  |zero=>simp at hn
  |succ n=>
   simp only[List.length_cons] at hn hp
   rw[jB] at hb
   have wp:G.real.wrap .i64 ((pre.length:Int)+1)=(pre.length:Int)+1:=w64 (by omega) (by omega)
   have w0:G.real.wrap .i64 (k+1)=k+1:=w64 (by omega) (by omega)
   have w1:G.real.wrap .i64 ((k+1)+1)=(k+1)+1:=w64 (by omega) (by omega)
   obtain⟨l',q1,q2,q3⟩:=ih (pre++[(Trip.mk (k) ((k+1)))]) ((k+1)+1) n (by omega) (by omega) (by omega) (by simp;omega)
   refine⟨(Trip.mk (k) ((k+1)))::l',?_,by simp[q2],?_⟩
   ·rw[dI]
    simp only[lO,bv,cg,aZ,bm,Int.toNat_natCast,nt,ba,nc,ng,aA,k8,ag,w0,w1]
    try rw[wp]
    rw[qL,qG pre (Trip.mk (k) ((k+1))),q1,jB]
    simp only[List.append_assoc,List.singleton_append,Option.some.injEq,Prod.mk.injEq,true_and]
    omega
   ·rw[dE]
    try simp only[co,qR,bv,bm,decide_true,ba,ao,aA,ag,beq_self_eq_true,if_true,w0,w1]
    rw[q3,jB]
    congr 1
    omega
theorem xz (l:List Trip):l.length≤gb l:=by
 induction l with
 |nil=>simp
 |cons x l ih=>rw[jB,List.length_cons];omega
theorem zY (l:List Trip):gb l≤16*l.length:=by
 induction l with
 |nil=>simp[gb]
 |cons x l ih=>rw[jB,List.length_cons];omega
theorem Dq (l:List Trip) (k:Int) (h0:0≤k) (hb:k+(gb l:Nat)≤800000000) (hl:l.length≤800000000):∃l',kw G.real TE.real l k=some (k+(gb l:Nat),l')∧l'.length=l.length∧kE G.real TE.real l' k=k+(gb l:Nat):=by
 obtain⟨l',q1,q2,q3⟩:=yE l [] k 1000000000 (by omega) h0 hb (by simp;omega)
 simp only[List.nil_append,List.length_nil] at q1
 refine⟨l',?_,q2,?_⟩
 ·unfold kw;rw[show(0:Int)=((0:Nat):Int) from rfl,q1,ag];dsimp only;rw[aj q2]
 ·unfold kE;simp only[aA,q3,sO]
def gv (x:Belief):Nat:=nI x.Places+gb x.Rides
theorem Ag (x:Belief) (k:Int) (h0:0≤k) (hb:k+(gv x:Nat)≤800000000):∃x',jx G.real TE.real x k=some (k+(gv x:Nat),x')∧x'.Places.length=x.Places.length∧x'.Rides.length=x.Rides.length∧ig G.real TE.real (Belief.mk x'.Places x'.Rides) k=some (k+(gv x:Nat)):=by
 unfold gv at hb
 have lb0:=DY x.Places
 have lb1:=xz x.Rides
 obtain⟨l0,e0,f0,g0⟩:=Gs x.Places k (by omega) (by omega) (by omega)
 obtain⟨l1,e1,f1,g1⟩:=Dq x.Rides (k+(nI x.Places:Nat)) (by omega) (by omega) (by omega)
 refine⟨(Belief.mk l0 l1),?_,f0,f1,?_⟩
 ·unfold jx gv
  rw[e0,ag];dsimp only;rw[aj f0]
  rw[e1,ag];dsimp only;rw[aj f1]
  congr 2;omega
 ·unfold ig gv
  dsimp only
  try rw[g0]
  try simp only[aA,ag,bv,ao]
  try rw[if_neg (show¬_<(0:Int) by omega)]
  try rw[g1]
  try simp only[aA,ag,bv,ao]
  try rw[if_neg (show¬_<(0:Int) by omega)]
  congr 1;omega
theorem wM (x:Belief):gv x≤16*Belief.tot x:=by
 have n0:=AN x.Places
 have n1:=zY x.Rides
 unfold gv Belief.tot
 omega
def gV (l:List Int):Nat:=(l.map fun x=>1).sum
theorem ku (x:Int) (l:List Int):gV (x::l)=(1)+gV l:=by simp[gV]
theorem zF (l:List Int):∀(pre:List Int) (k:Int) (n:Nat),l.length<n→0≤k→k+(gV l:Nat)≤800000000→pre.length+l.length≤800000000→
 ∃l',ew G.real TE.real n (pre++l) k pre.length=some (pre++l',k+(gV l:Nat))∧l'.length=l.length∧eD G.real TE.real l' k=.out (k+(gV l:Nat)):=by
 induction l with
 |nil=>
  intro pre k n hn h0 hb hp
  cases n with
  |zero=>simp at hn
  |succ n=>
   refine⟨[],?_,rfl,?_⟩
   ·rw[ew];simp only[eP,bv,cg,t6,jn];simp[gV]
   ·rw[eD];simp[gV]
 |cons z l ih=>
  intro pre k n hn h0 hb hp
  cases n with
  |zero=>simp at hn
  |succ n=>
   simp only[List.length_cons] at hn hp
   rw[ku] at hb
   have wp:G.real.wrap .i64 ((pre.length:Int)+1)=(pre.length:Int)+1:=w64 (by omega) (by omega)
   have w0:G.real.wrap .i64 (k+1)=k+1:=w64 (by omega) (by omega)
   obtain⟨l',q1,q2,q3⟩:=ih (pre++[(k)]) (k+1) n (by omega) (by omega) (by omega) (by simp;omega)
   refine⟨(k)::l',?_,by simp[q2],?_⟩
   ·rw[ew]
    simp only[eP,bv,cg,aZ,bm,Int.toNat_natCast,nt,ba,nc,ng,aA,k8,ag,w0]
    try rw[wp]
    rw[qL,qG pre (k),q1,ku]
    simp only[List.append_assoc,List.singleton_append,Option.some.injEq,Prod.mk.injEq,true_and]
    omega
   ·rw[eD]
    try simp only[co,qR,bv,bm,decide_true,ba,ao,aA,ag,beq_self_eq_true,if_true,w0]
    rw[q3,ku]
    congr 1
    omega
theorem zG (l:List Int):l.length≤gV l:=by
 induction l with
 |nil=>simp
 |cons x l ih=>rw[ku,List.length_cons];omega
theorem vL (l:List Int):gV l≤16*l.length:=by
 induction l with
 |nil=>simp[gV]
 |cons x l ih=>rw[ku,List.length_cons];omega
theorem AQ (l:List Int) (k:Int) (h0:0≤k) (hb:k+(gV l:Nat)≤800000000) (hl:l.length≤800000000):∃l',jN G.real TE.real l k=some (k+(gV l:Nat),l')∧l'.length=l.length∧j8 G.real TE.real l' k=k+(gV l:Nat):=by
 obtain⟨l',q1,q2,q3⟩:=zF l [] k 1000000000 (by omega) h0 hb (by simp;omega)
 simp only[List.nil_append,List.length_nil] at q1
 refine⟨l',?_,q2,?_⟩
 ·unfold jN;rw[show(0:Int)=((0:Nat):Int) from rfl,q1,ag];dsimp only;rw[aj q2]
 ·unfold j8;simp only[aA,q3,sO]
def jK (l:List Leg):Nat:=(l.map fun x=>6).sum
theorem lX (x:Leg) (l:List Leg):jK (x::l)=(6)+jK l:=by simp[jK]
theorem zo (l:List Leg):∀(pre:List Leg) (k:Int) (n:Nat),l.length<n→0≤k→k+(jK l:Nat)≤800000000→pre.length+l.length≤800000000→
 ∃l',ee G.real TE.real n (pre++l) k pre.length=some (pre++l',k+(jK l:Nat))∧l'.length=l.length:=by
 induction l with
 |nil=>
  intro pre k n hn h0 hb hp
  cases n with
  |zero=>simp at hn
  |succ n=>
   refine⟨[],?_,rfl⟩
   ·rw[ee];simp only[my,bv,cg,t6,jn];simp[jK]
 |cons z l ih=>
  intro pre k n hn h0 hb hp
  cases n with
  |zero=>simp at hn
  |succ n=>
   simp only[List.length_cons] at hn hp
   rw[lX] at hb
   have wp:G.real.wrap .i64 ((pre.length:Int)+1)=(pre.length:Int)+1:=w64 (by omega) (by omega)
   obtain⟨s1,e1⟩:=nA k (by omega) (by omega)
   have w0:G.real.wrap .i64 (k+1)=k+1:=w64 (by omega) (by omega)
   obtain⟨s2,e2⟩:=nA (k+1) (by omega) (by omega)
   have w1:G.real.wrap .i64 ((k+1)+1)=(k+1)+1:=w64 (by omega) (by omega)
   have w2:G.real.wrap .i64 (((k+1)+1)+1)=((k+1)+1)+1:=w64 (by omega) (by omega)
   have w3:G.real.wrap .i64 ((((k+1)+1)+1)+1)=(((k+1)+1)+1)+1:=w64 (by omega) (by omega)
   have w4:G.real.wrap .i64 (((((k+1)+1)+1)+1)+1)=((((k+1)+1)+1)+1)+1:=w64 (by omega) (by omega)
   have w5:G.real.wrap .i64 ((((((k+1)+1)+1)+1)+1)+1)=(((((k+1)+1)+1)+1)+1)+1:=w64 (by omega) (by omega)
   obtain⟨l',q1,q2⟩:=ih (pre++[(Leg.mk (s1) (s2) (((k+1)+1)) ((((k+1)+1)+1)) (((((k+1)+1)+1)+1)) ((((((k+1)+1)+1)+1)+1)))]) ((((((k+1)+1)+1)+1)+1)+1) n (by omega) (by omega) (by omega) (by simp;omega)
   refine⟨(Leg.mk (s1) (s2) (((k+1)+1)) ((((k+1)+1)+1)) (((((k+1)+1)+1)+1)) ((((((k+1)+1)+1)+1)+1)))::l',?_,by simp[q2]⟩
   ·rw[ee]
    simp only[my,bv,cg,aZ,bm,Int.toNat_natCast,nt,ba,nc,ng,aA,k8,ag,w0,w1,w2,w3,w4,w5]
    try rw[e1]
    try simp only[my,bv,cg,aZ,bm,Int.toNat_natCast,nt,ba,nc,ng,aA,k8,ag,w0,w1,w2,w3,w4,w5]
    try rw[e2]
    try simp only[my,bv,cg,aZ,bm,Int.toNat_natCast,nt,ba,nc,ng,aA,k8,ag,w0,w1,w2,w3,w4,w5]
    try rw[wp]
    rw[qL,qG pre (Leg.mk (s1) (s2) (((k+1)+1)) ((((k+1)+1)+1)) (((((k+1)+1)+1)+1)) ((((((k+1)+1)+1)+1)+1))),q1,lX]
    simp only[List.append_assoc,List.singleton_append,Option.some.injEq,Prod.mk.injEq,true_and]
    omega
theorem z5 (l:List Leg):l.length≤jK l:=by
 induction l with
 |nil=>simp
 |cons x l ih=>rw[lX,List.length_cons];omega
theorem CN (l:List Leg):jK l≤16*l.length:=by
 induction l with
 |nil=>simp[jK]
 |cons x l ih=>rw[lX,List.length_cons];omega
theorem Fj (l:List Leg) (k:Int) (h0:0≤k) (hb:k+(jK l:Nat)≤800000000) (hl:l.length≤800000000):∃l',lH G.real TE.real l k=some (k+(jK l:Nat),l')∧l'.length=l.length:=by
 obtain⟨l',q1,q2⟩:=zo l [] k 1000000000 (by omega) h0 hb (by simp;omega)
 simp only[List.nil_append,List.length_nil] at q1
 refine⟨l',?_,q2⟩
 ·unfold lH;rw[show(0:Int)=((0:Nat):Int) from rfl,q1,ag];dsimp only;rw[aj q2]
def dQ (x:Network):Nat:=jK x.Legs+gV x.Off
theorem i8 (x:Network) (k:Int) (h0:0≤k) (hb:k+(dQ x:Nat)≤800000000):∃x',cS G.real TE.real x k=some (k+(dQ x:Nat),x')∧x'.Legs.length=x.Legs.length∧x'.Off.length=x.Off.length:=by
 unfold dQ at hb
 have lb0:=z5 x.Legs
 have lb1:=zG x.Off
 obtain⟨l0,e0,f0⟩:=Fj x.Legs k (by omega) (by omega) (by omega)
 obtain⟨l1,e1,f1,g1⟩:=AQ x.Off (k+(jK x.Legs:Nat)) (by omega) (by omega) (by omega)
 refine⟨(Network.mk l0 l1 x.Change),?_,f0,f1⟩
 ·unfold cS dQ
  rw[e0,ag];dsimp only;rw[aj f0]
  rw[e1,ag];dsimp only;rw[aj f1]
  congr 2;omega
theorem gC (x:Network):dQ x≤16*Network.tot x:=by
 have n0:=CN x.Legs
 have n1:=vL x.Off
 unfold dQ Network.tot
 omega
def ea (l:List Scan):Nat:=(l.map fun x=>6).sum
theorem kY (x:Scan) (l:List Scan):ea (x::l)=(6)+ea l:=by simp[ea]
theorem xp (l:List Scan):∀(pre:List Scan) (k:Int) (n:Nat),l.length<n→0≤k→k+(ea l:Nat)≤800000000→pre.length+l.length≤800000000→
 ∃l',dM G.real TE.real n (pre++l) k pre.length=some (pre++l',k+(ea l:Nat))∧l'.length=l.length∧dG G.real TE.real l' k=some (.out (k+(ea l:Nat))):=by
 induction l with
 |nil=>
  intro pre k n hn h0 hb hp
  cases n with
  |zero=>simp at hn
  |succ n=>
   refine⟨[],?_,rfl,?_⟩
   ·rw[dM];simp only[bx,bv,cg,t6,jn];simp[ea]
   ·rw[dG];simp[ea]
 |cons z l ih=>
  intro pre k n hn h0 hb hp
  cases n with
  |zero=>simp at hn
  |succ n=>
   simp only[List.length_cons] at hn hp
   rw[kY] at hb
   have wp:G.real.wrap .i64 ((pre.length:Int)+1)=(pre.length:Int)+1:=w64 (by omega) (by omega)
   have w0:G.real.wrap .i64 (k+1)=k+1:=w64 (by omega) (by omega)
   have w1:G.real.wrap .i64 ((k+1)+1)=(k+1)+1:=w64 (by omega) (by omega)
   have w2:G.real.wrap .i64 (((k+1)+1)+1)=((k+1)+1)+1:=w64 (by omega) (by omega)
   obtain⟨s1,e1⟩:=nA (((k+1)+1)+1) (by omega) (by omega)
   have w3:G.real.wrap .i64 ((((k+1)+1)+1)+1)=(((k+1)+1)+1)+1:=w64 (by omega) (by omega)
   have w4:G.real.wrap .i64 (((((k+1)+1)+1)+1)+1)=((((k+1)+1)+1)+1)+1:=w64 (by omega) (by omega)
   have w5:G.real.wrap .i64 ((((((k+1)+1)+1)+1)+1)+1)=(((((k+1)+1)+1)+1)+1)+1:=w64 (by omega) (by omega)
   obtain⟨l',q1,q2,q3⟩:=ih (pre++[(Scan.mk (k) ((k+1)) (((k+1)+1)) (s1) (Trip.mk (((((k+1)+1)+1)+1)) ((((((k+1)+1)+1)+1)+1))))]) ((((((k+1)+1)+1)+1)+1)+1) n (by omega) (by omega) (by omega) (by simp;omega)
   refine⟨(Scan.mk (k) ((k+1)) (((k+1)+1)) (s1) (Trip.mk (((((k+1)+1)+1)+1)) ((((((k+1)+1)+1)+1)+1))))::l',?_,by simp[q2],?_⟩
   ·rw[dM]
    simp only[bx,bv,cg,aZ,bm,Int.toNat_natCast,nt,ba,nc,ng,aA,k8,ag,w0,w1,w2,w3,w4,w5]
    try rw[e1]
    try simp only[bx,bv,cg,aZ,bm,Int.toNat_natCast,nt,ba,nc,ng,aA,k8,ag,w0,w1,w2,w3,w4,w5]
    try rw[wp]
    rw[qL,qG pre (Scan.mk (k) ((k+1)) (((k+1)+1)) (s1) (Trip.mk (((((k+1)+1)+1)+1)) ((((((k+1)+1)+1)+1)+1)))),q1,kY]
    simp only[List.append_assoc,List.singleton_append,Option.some.injEq,Prod.mk.injEq,true_and]
    omega
   ·rw[dG]
    try simp only[co,qR,bv,bm,decide_true,ba,ao,aA,ag,beq_self_eq_true,if_true,w0,w1,w2,w3,w4,w5]
    try rw[e1]
    try simp only[co,qR,bv,bm,decide_true,ba,ao,aA,ag,beq_self_eq_true,if_true,w0,w1,w2,w3,w4,w5]
    rw[q3,kY]
    congr 1
    congr 1
    omega
theorem gc (l:List Scan):ea l≤16*l.length:=by
 induction l with
 |nil=>simp[ea]
 |cons x l ih=>rw[kY,List.length_cons];omega
theorem jC (l:List Scan) (k:Int) (h0:0≤k) (hb:k+(ea l:Nat)≤800000000) (hl:l.length≤800000000):∃l',cI G.real TE.real l k=some (k+(ea l:Nat),l')∧l'.length=l.length∧eh G.real TE.real l' k=some (k+(ea l:Nat)):=by
 obtain⟨l',q1,q2,q3⟩:=xp l [] k 1000000000 (by omega) h0 hb (by simp;omega)
 simp only[List.nil_append,List.length_nil] at q1
 refine⟨l',?_,q2,?_⟩
 ·unfold cI;rw[show(0:Int)=((0:Nat):Int) from rfl,q1,ag];dsimp only;rw[aj q2]
 ·unfold eh;simp only[aA,q3,sO,ag,th]
end Go.Vs
