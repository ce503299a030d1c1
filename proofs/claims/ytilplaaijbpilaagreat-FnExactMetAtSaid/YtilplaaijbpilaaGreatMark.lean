/- Part of the proofs of this seat's laws: Mark. No condition. -/
import Derived.Test.YtilplaaijbpilaaGreatVf
import Derived.Test.YtilplaaijbpilaaGreatHb
import Derived.Test.YtilplaaijbpilaaGreatLaa
import Derived.Test.YtilplaaijbpilaaGreatLae
set_option linter.unusedVariables false
set_option linter.unusedSimpArgs false
set_option linter.unusedSectionVars false
namespace Go.Vs
open Go.IntWalk
theorem lv {α β:Type} (pre l:List β) (x:β) (k:β→Option α):gt (pre++x::l) pre.length k=k x:=ar (by simp)
theorem i7 {β:Type} (pre l:List β) (x y:β):(pre++x::l).set pre.length y=pre++y::l:=by simp
theorem lp {α β:Type} (pre l:List β) (x:β) (k:Option α):gd ((0:Int)≤(pre.length:Int)∧(pre.length:Int)<((pre++x::l).length:Nat)) k=k:=ag (by simp;omega)
theorem lf {β:Type} (pre l:List β) (x:β):decide ((pre.length:Int)<((pre++x::l).length:Nat))=true:=by simp;omega
theorem su {β:Type} (pre:List β):decide ((pre.length:Int)<((pre++[]).length:Nat))=false:=by simp
theorem pc {β:Type} (pre l:List β) (x:β):pre++x::l=(pre++[x])++l:=by simp
theorem oX {β:Type} (pre:List β) (x:β):((pre.length:Nat):Int)+1=(((pre++[x]).length:Nat):Int):=by simp
end Go.Vs
namespace Go.Vs
open Go.IntWalk
set_option linter.unusedVariables false
set_option linter.unusedSimpArgs false
theorem qh:∀(m n:Nat) (v:Int) (s:ByteArray),v<(10:Int)^m→m<n→v≤800000000→s.size+m≤1000→∃r,dw G.real TE.real n v s=some r∧r.size≤s.size+m
 |m,0,v,s,_,h,_,_=>by omega
 |0,n+1,v,s,h,_,_,_=>by
  rw[dw]
  simp only[bB,am]
  rw[if_neg (by simp at h;omega)]
  exact⟨s,rfl,by omega⟩
 |m+1,n+1,v,s,h,hn,hv,hs=>by
  rw[dw]
  simp only[bB,am,az]
  by_cases h0:0<v
  ·rw[if_pos h0]
   have hz:∀x:Int,(G.real.bstr [x]).size=1:=fun x=>by
    have:G.real.bstr [x]=strOfNums [x]:=rfl
    rw[this,strOfNums_size];rfl
   have hp:(10:Int)^(m+1)=(10:Int)^m*10:=by rw[Int.pow_succ]
   have hq:v.tdiv 10<(10:Int)^m:=by
    rw[Int.tdiv_eq_ediv_of_nonneg (by omega)]
    rw[hp] at h
    exact Int.ediv_lt_of_lt_mul (by omega) h
   have hq2:v.tdiv 10≤800000000:=by rw[Int.tdiv_eq_ediv_of_nonneg (by omega)];omega
   have hq3:0≤v.tdiv 10:=by rw[Int.tdiv_eq_ediv_of_nonneg (by omega)];omega
   rw[ag (by rw[hz];omega)]
   have hw:G.real.wrap .i64 (G.real.quo v 10)=v.tdiv 10:=by rw[EZ];exact w64 (by omega) (by omega)
   rw[hw]
   have hc:∀x:Int,(G.real.cat (G.real.bstr [x]) s).size=s.size+1:=fun x=>by rw[GL,ByteArray.size_append,hz];omega
   obtain⟨r,e1,e2⟩:=qh m n (v.tdiv 10) (G.real.cat (G.real.bstr [G.real.wrap .u8 (G.real.wrap .i64 (G.real.add 48 (G.real.rem v 10)))]) s) hq (by omega) hq2 (by rw[hc];omega)
   exact⟨r,e1,by rw[hc] at e2;omega⟩
  ·rw[if_neg h0]
   exact⟨s,rfl,by omega⟩
theorem lh (k:Int) (h0:0≤k) (h1:k≤800000000):∃s,ek G.real TE.real k=some s:=by
 unfold ek
 simp only[iI,am]
 split
 ·exact⟨_,rfl⟩
 ·obtain⟨r,e1,e2⟩:=qh 9 1000000000 k str_k0 (by omega) (by omega) (by omega) (by show(0:Nat)+9≤1000;omega)
  rw[e1,af]
  have hz0:(str_k0:ByteArray).size=0:=rfl
  have hz1:(sX:ByteArray).size=1:=rfl
  rw[ag (by omega)]
  exact⟨_,rfl⟩
def lN (l:List ByteArray):Nat:=(l.map fun x=>1).sum
theorem kF (x:ByteArray) (l:List ByteArray):lN (x::l)=(1)+lN l:=by simp[lN]
theorem Da (l:List ByteArray):∀(pre:List ByteArray) (k:Int) (n:Nat),l.length<n→0≤k→k+(lN l:Nat)≤800000000→pre.length+l.length≤800000000→
 ∃l',bZ G.real TE.real n (pre++l) k pre.length=some (pre++l',k+(lN l:Nat))∧l'.length=l.length∧bU G.real TE.real l' k=some (.out (k+(lN l:Nat))):=by
 induction l with
 |nil=>
  intro pre k n hn h0 hb hp
  cases n with
  |zero=>simp at hn
  |succ n=>
   refine⟨[],?_,rfl,?_⟩
   ·rw[bZ];simp only[fQ,bB,bY,su,gX];simp[lN]
   ·rw[bU];simp[lN]
 |cons z l ih=>
  intro pre k n hn h0 hb hp
  cases n with
  |zero=>simp at hn
  |succ n=>
   simp only[List.length_cons] at hn hp
   rw[kF] at hb
   have wp:G.real.wrap .i64 ((pre.length:Int)+1)=(pre.length:Int)+1:=w64 (by omega) (by omega)
   obtain⟨s1,e1⟩:=lh k (by omega) (by omega)
   have w0:G.real.wrap .i64 (k+1)=k+1:=w64 (by omega) (by omega)
   obtain⟨l',q1,q2,q3⟩:=ih (pre++[(s1)]) (k+1) n (by omega) (by omega) (by omega) (by simp;omega)
   refine⟨(s1)::l',?_,by simp[q2],?_⟩
   ·rw[bZ]
    simp only[fQ,bB,bY,aQ,bc,Int.toNat_natCast,lf,bd,lp,lv,az,i7,af,w0]
    try rw[e1]
    try simp only[fQ,bB,bY,aQ,bc,Int.toNat_natCast,lf,bd,lp,lv,az,i7,af,w0]
    try rw[wp]
    rw[pc,oX pre (s1),q1,kF]
    simp only[List.append_assoc,List.singleton_append,Option.some.injEq,Prod.mk.injEq,true_and]
    omega
   ·rw[bU]
    try simp only[cB,oE,bB,bc,decide_true,bd,am,az,af,beq_self_eq_true,if_true,w0]
    try rw[e1]
    try simp only[cB,oE,bB,bc,decide_true,bd,am,az,af,beq_self_eq_true,if_true,w0]
    rw[q3,kF]
    congr 1
    congr 1
    omega
theorem Cf (l:List ByteArray):l.length≤lN l:=by
 induction l with
 |nil=>simp
 |cons x l ih=>rw[kF,List.length_cons];omega
theorem Ae (l:List ByteArray):lN l≤16*l.length:=by
 induction l with
 |nil=>simp[lN]
 |cons x l ih=>rw[kF,List.length_cons];omega
theorem ET (l:List ByteArray) (k:Int) (h0:0≤k) (hb:k+(lN l:Nat)≤800000000) (hl:l.length≤800000000):∃l',fi G.real TE.real l k=some (k+(lN l:Nat),l')∧l'.length=l.length∧eu G.real TE.real l' k=some (k+(lN l:Nat)):=by
 obtain⟨l',q1,q2,q3⟩:=Da l [] k 1000000000 (by omega) h0 hb (by simp;omega)
 simp only[List.nil_append,List.length_nil] at q1
 refine⟨l',?_,q2,?_⟩
 ·unfold fi;rw[show(0:Int)=((0:Nat):Int) from rfl,q1,af];dsimp only;rw[ag q2]
 ·unfold eu;simp only[az,q3,qP,af,rl]
def eZ (l:List Trip):Nat:=(l.map fun x=>2).sum
theorem gW (x:Trip) (l:List Trip):eZ (x::l)=(2)+eZ l:=by simp[eZ]
theorem wv (l:List Trip):∀(pre:List Trip) (k:Int) (n:Nat),l.length<n→0≤k→k+(eZ l:Nat)≤800000000→pre.length+l.length≤800000000→
 ∃l',cW G.real TE.real n (pre++l) k pre.length=some (pre++l',k+(eZ l:Nat))∧l'.length=l.length∧cV G.real TE.real l' k=.out (k+(eZ l:Nat)):=by
 induction l with
 |nil=>
  intro pre k n hn h0 hb hp
  cases n with
  |zero=>simp at hn
  |succ n=>
   refine⟨[],?_,rfl,?_⟩
   ·rw[cW];simp only[jC,bB,bY,su,gX];simp[eZ]
   ·rw[cV];simp[eZ]
 |cons z l ih=>
  intro pre k n hn h0 hb hp
  cases n with
  |zero=>simp at hn
  |succ n=>
   simp only[List.length_cons] at hn hp
   rw[gW] at hb
   have wp:G.real.wrap .i64 ((pre.length:Int)+1)=(pre.length:Int)+1:=w64 (by omega) (by omega)
   have w0:G.real.wrap .i64 (k+1)=k+1:=w64 (by omega) (by omega)
   have w1:G.real.wrap .i64 ((k+1)+1)=(k+1)+1:=w64 (by omega) (by omega)
   obtain⟨l',q1,q2,q3⟩:=ih (pre++[(Trip.mk (k) ((k+1)))]) ((k+1)+1) n (by omega) (by omega) (by omega) (by simp;omega)
   refine⟨(Trip.mk (k) ((k+1)))::l',?_,by simp[q2],?_⟩
   ·rw[cW]
    simp only[jC,bB,bY,aQ,bc,Int.toNat_natCast,lf,bd,lp,lv,az,i7,af,w0,w1]
    try rw[wp]
    rw[pc,oX pre (Trip.mk (k) ((k+1))),q1,gW]
    simp only[List.append_assoc,List.singleton_append,Option.some.injEq,Prod.mk.injEq,true_and]
    omega
   ·rw[cV]
    try simp only[cB,oE,bB,bc,decide_true,bd,am,az,af,beq_self_eq_true,if_true,w0,w1]
    rw[q3,gW]
    congr 1
    omega
theorem xf (l:List Trip):l.length≤eZ l:=by
 induction l with
 |nil=>simp
 |cons x l ih=>rw[gW,List.length_cons];omega
theorem yV (l:List Trip):eZ l≤16*l.length:=by
 induction l with
 |nil=>simp[eZ]
 |cons x l ih=>rw[gW,List.length_cons];omega
theorem B5 (l:List Trip) (k:Int) (h0:0≤k) (hb:k+(eZ l:Nat)≤800000000) (hl:l.length≤800000000):∃l',iF G.real TE.real l k=some (k+(eZ l:Nat),l')∧l'.length=l.length∧iA G.real TE.real l' k=k+(eZ l:Nat):=by
 obtain⟨l',q1,q2,q3⟩:=wv l [] k 1000000000 (by omega) h0 hb (by simp;omega)
 simp only[List.nil_append,List.length_nil] at q1
 refine⟨l',?_,q2,?_⟩
 ·unfold iF;rw[show(0:Int)=((0:Nat):Int) from rfl,q1,af];dsimp only;rw[ag q2]
 ·unfold iA;simp only[az,q3,qP]
def fj (x:Belief):Nat:=lN x.Places+eZ x.Rides
theorem xY (x:Belief) (k:Int) (h0:0≤k) (hb:k+(fj x:Nat)≤800000000):∃x',gR G.real TE.real x k=some (k+(fj x:Nat),x')∧x'.Places.length=x.Places.length∧x'.Rides.length=x.Rides.length∧f5 G.real TE.real (Belief.mk x'.Places x'.Rides) k=some (k+(fj x:Nat)):=by
 unfold fj at hb
 have lb0:=Cf x.Places
 have lb1:=xf x.Rides
 obtain⟨l0,e0,f0,g0⟩:=ET x.Places k (by omega) (by omega) (by omega)
 obtain⟨l1,e1,f1,g1⟩:=B5 x.Rides (k+(lN x.Places:Nat)) (by omega) (by omega) (by omega)
 refine⟨(Belief.mk l0 l1),?_,f0,f1,?_⟩
 ·unfold gR fj
  rw[e0,af];dsimp only;rw[ag f0]
  rw[e1,af];dsimp only;rw[ag f1]
  congr 2;omega
 ·unfold f5 fj
  dsimp only
  try rw[g0]
  try simp only[az,af,bB,am]
  try rw[if_neg (show¬_<(0:Int) by omega)]
  try rw[g1]
  try simp only[az,af,bB,am]
  try rw[if_neg (show¬_<(0:Int) by omega)]
  congr 1;omega
theorem vA (x:Belief):fj x≤16*Belief.tot x:=by
 have n0:=Ae x.Places
 have n1:=yV x.Rides
 unfold fj Belief.tot
 omega
def gp (l:List Int):Nat:=(l.map fun x=>1).sum
theorem iC (x:Int) (l:List Int):gp (x::l)=(1)+gp l:=by simp[gp]
theorem yz (l:List Int):∀(pre:List Int) (k:Int) (n:Nat),l.length<n→0≤k→k+(gp l:Nat)≤800000000→pre.length+l.length≤800000000→
 ∃l',dn G.real TE.real n (pre++l) k pre.length=some (pre++l',k+(gp l:Nat))∧l'.length=l.length∧gb G.real TE.real l' k=.out (k+(gp l:Nat)):=by
 induction l with
 |nil=>
  intro pre k n hn h0 hb hp
  cases n with
  |zero=>simp at hn
  |succ n=>
   refine⟨[],?_,rfl,?_⟩
   ·rw[dn];simp only[dT,bB,bY,su,gX];simp[gp]
   ·rw[gb];simp[gp]
 |cons z l ih=>
  intro pre k n hn h0 hb hp
  cases n with
  |zero=>simp at hn
  |succ n=>
   simp only[List.length_cons] at hn hp
   rw[iC] at hb
   have wp:G.real.wrap .i64 ((pre.length:Int)+1)=(pre.length:Int)+1:=w64 (by omega) (by omega)
   have w0:G.real.wrap .i64 (k+1)=k+1:=w64 (by omega) (by omega)
   obtain⟨l',q1,q2,q3⟩:=ih (pre++[(k)]) (k+1) n (by omega) (by omega) (by omega) (by simp;omega)
   refine⟨(k)::l',?_,by simp[q2],?_⟩
   ·rw[dn]
    simp only[dT,bB,bY,aQ,bc,Int.toNat_natCast,lf,bd,lp,lv,az,i7,af,w0]
    try rw[wp]
    rw[pc,oX pre (k),q1,iC]
    simp only[List.append_assoc,List.singleton_append,Option.some.injEq,Prod.mk.injEq,true_and]
    omega
   ·rw[gb]
    try simp only[cB,oE,bB,bc,decide_true,bd,am,az,af,beq_self_eq_true,if_true,w0]
    rw[q3,iC]
    congr 1
    omega
theorem yP (l:List Int):l.length≤gp l:=by
 induction l with
 |nil=>simp
 |cons x l ih=>rw[iC,List.length_cons];omega
theorem Au (l:List Int):gp l≤16*l.length:=by
 induction l with
 |nil=>simp[gp]
 |cons x l ih=>rw[iC,List.length_cons];omega
theorem Eg (l:List Int) (k:Int) (h0:0≤k) (hb:k+(gp l:Nat)≤800000000) (hl:l.length≤800000000):∃l',jT G.real TE.real l k=some (k+(gp l:Nat),l')∧l'.length=l.length∧rG G.real TE.real l' k=k+(gp l:Nat):=by
 obtain⟨l',q1,q2,q3⟩:=yz l [] k 1000000000 (by omega) h0 hb (by simp;omega)
 simp only[List.nil_append,List.length_nil] at q1
 refine⟨l',?_,q2,?_⟩
 ·unfold jT;rw[show(0:Int)=((0:Nat):Int) from rfl,q1,af];dsimp only;rw[ag q2]
 ·unfold rG;simp only[az,q3,qP]
def iu (l:List Leg):Nat:=(l.map fun x=>6).sum
theorem j9 (x:Leg) (l:List Leg):iu (x::l)=(6)+iu l:=by simp[iu]
theorem yB (l:List Leg):∀(pre:List Leg) (k:Int) (n:Nat),l.length<n→0≤k→k+(iu l:Nat)≤800000000→pre.length+l.length≤800000000→
 ∃l',dj G.real TE.real n (pre++l) k pre.length=some (pre++l',k+(iu l:Nat))∧l'.length=l.length:=by
 induction l with
 |nil=>
  intro pre k n hn h0 hb hp
  cases n with
  |zero=>simp at hn
  |succ n=>
   refine⟨[],?_,rfl⟩
   ·rw[dj];simp only[kT,bB,bY,su,gX];simp[iu]
 |cons z l ih=>
  intro pre k n hn h0 hb hp
  cases n with
  |zero=>simp at hn
  |succ n=>
   simp only[List.length_cons] at hn hp
   rw[j9] at hb
   have wp:G.real.wrap .i64 ((pre.length:Int)+1)=(pre.length:Int)+1:=w64 (by omega) (by omega)
   obtain⟨s1,e1⟩:=lh k (by omega) (by omega)
   have w0:G.real.wrap .i64 (k+1)=k+1:=w64 (by omega) (by omega)
   obtain⟨s2,e2⟩:=lh (k+1) (by omega) (by omega)
   have w1:G.real.wrap .i64 ((k+1)+1)=(k+1)+1:=w64 (by omega) (by omega)
   have w2:G.real.wrap .i64 (((k+1)+1)+1)=((k+1)+1)+1:=w64 (by omega) (by omega)
   have w3:G.real.wrap .i64 ((((k+1)+1)+1)+1)=(((k+1)+1)+1)+1:=w64 (by omega) (by omega)
   have w4:G.real.wrap .i64 (((((k+1)+1)+1)+1)+1)=((((k+1)+1)+1)+1)+1:=w64 (by omega) (by omega)
   have w5:G.real.wrap .i64 ((((((k+1)+1)+1)+1)+1)+1)=(((((k+1)+1)+1)+1)+1)+1:=w64 (by omega) (by omega)
   obtain⟨l',q1,q2⟩:=ih (pre++[(Leg.mk (s1) (s2) (((k+1)+1)) ((((k+1)+1)+1)) (((((k+1)+1)+1)+1)) ((((((k+1)+1)+1)+1)+1)))]) ((((((k+1)+1)+1)+1)+1)+1) n (by omega) (by omega) (by omega) (by simp;omega)
   refine⟨(Leg.mk (s1) (s2) (((k+1)+1)) ((((k+1)+1)+1)) (((((k+1)+1)+1)+1)) ((((((k+1)+1)+1)+1)+1)))::l',?_,by simp[q2]⟩
   ·rw[dj]
    simp only[kT,bB,bY,aQ,bc,Int.toNat_natCast,lf,bd,lp,lv,az,i7,af,w0,w1,w2,w3,w4,w5]
    try rw[e1]
    try simp only[kT,bB,bY,aQ,bc,Int.toNat_natCast,lf,bd,lp,lv,az,i7,af,w0,w1,w2,w3,w4,w5]
    try rw[e2]
    try simp only[kT,bB,bY,aQ,bc,Int.toNat_natCast,lf,bd,lp,lv,az,i7,af,w0,w1,w2,w3,w4,w5]
    try rw[wp]
    rw[pc,oX pre (Leg.mk (s1) (s2) (((k+1)+1)) ((((k+1)+1)+1)) (((((k+1)+1)+1)+1)) ((((((k+1)+1)+1)+1)+1))),q1,j9]
    simp only[List.append_assoc,List.singleton_append,Option.some.injEq,Prod.mk.injEq,true_and]
    omega
theorem yH (l:List Leg):l.length≤iu l:=by
 induction l with
 |nil=>simp
 |cons x l ih=>rw[j9,List.length_cons];omega
theorem Bt (l:List Leg):iu l≤16*l.length:=by
 induction l with
 |nil=>simp[iu]
 |cons x l ih=>rw[j9,List.length_cons];omega
theorem Eq (l:List Leg) (k:Int) (h0:0≤k) (hb:k+(iu l:Nat)≤800000000) (hl:l.length≤800000000):∃l',j5 G.real TE.real l k=some (k+(iu l:Nat),l')∧l'.length=l.length:=by
 obtain⟨l',q1,q2⟩:=yB l [] k 1000000000 (by omega) h0 hb (by simp;omega)
 simp only[List.nil_append,List.length_nil] at q1
 refine⟨l',?_,q2⟩
 ·unfold j5;rw[show(0:Int)=((0:Nat):Int) from rfl,q1,af];dsimp only;rw[ag q2]
def fD (x:Network):Nat:=iu x.Legs+gp x.Off
theorem qa (x:Network) (k:Int) (h0:0≤k) (hb:k+(fD x:Nat)≤800000000):∃x',fh G.real TE.real x k=some (k+(fD x:Nat),x')∧x'.Legs.length=x.Legs.length∧x'.Off.length=x.Off.length:=by
 unfold fD at hb
 have lb0:=yH x.Legs
 have lb1:=yP x.Off
 obtain⟨l0,e0,f0⟩:=Eq x.Legs k (by omega) (by omega) (by omega)
 obtain⟨l1,e1,f1,g1⟩:=Eg x.Off (k+(iu x.Legs:Nat)) (by omega) (by omega) (by omega)
 refine⟨(Network.mk l0 l1 x.Change),?_,f0,f1⟩
 ·unfold fh fD
  rw[e0,af];dsimp only;rw[ag f0]
  rw[e1,af];dsimp only;rw[ag f1]
  congr 2;omega
theorem nh (x:Network):fD x≤16*Network.tot x:=by
 have n0:=Bt x.Legs
 have n1:=Au x.Off
 unfold fD Network.tot
 omega
def fY (l:List Scan):Nat:=(l.map fun x=>6).sum
theorem i4 (x:Scan) (l:List Scan):fY (x::l)=(6)+fY l:=by simp[fY]
theorem wc (l:List Scan):∀(pre:List Scan) (k:Int) (n:Nat),l.length<n→0≤k→k+(fY l:Nat)≤800000000→pre.length+l.length≤800000000→
 ∃l',cT G.real TE.real n (pre++l) k pre.length=some (pre++l',k+(fY l:Nat))∧l'.length=l.length∧fL G.real TE.real l' k=some (.out (k+(fY l:Nat))):=by
 induction l with
 |nil=>
  intro pre k n hn h0 hb hp
  cases n with
  |zero=>simp at hn
  |succ n=>
   refine⟨[],?_,rfl,?_⟩
   ·rw[cT];simp only[bT,bB,bY,su,gX];simp[fY]
   ·rw[fL];simp[fY]
 |cons z l ih=>
  intro pre k n hn h0 hb hp
  cases n with
  |zero=>simp at hn
  |succ n=>
   simp only[List.length_cons] at hn hp
   rw[i4] at hb
   have wp:G.real.wrap .i64 ((pre.length:Int)+1)=(pre.length:Int)+1:=w64 (by omega) (by omega)
   have w0:G.real.wrap .i64 (k+1)=k+1:=w64 (by omega) (by omega)
   have w1:G.real.wrap .i64 ((k+1)+1)=(k+1)+1:=w64 (by omega) (by omega)
   have w2:G.real.wrap .i64 (((k+1)+1)+1)=((k+1)+1)+1:=w64 (by omega) (by omega)
   obtain⟨s1,e1⟩:=lh (((k+1)+1)+1) (by omega) (by omega)
   have w3:G.real.wrap .i64 ((((k+1)+1)+1)+1)=(((k+1)+1)+1)+1:=w64 (by omega) (by omega)
   have w4:G.real.wrap .i64 (((((k+1)+1)+1)+1)+1)=((((k+1)+1)+1)+1)+1:=w64 (by omega) (by omega)
   have w5:G.real.wrap .i64 ((((((k+1)+1)+1)+1)+1)+1)=(((((k+1)+1)+1)+1)+1)+1:=w64 (by omega) (by omega)
   obtain⟨l',q1,q2,q3⟩:=ih (pre++[(Scan.mk (k) ((k+1)) (((k+1)+1)) (s1) (Trip.mk (((((k+1)+1)+1)+1)) ((((((k+1)+1)+1)+1)+1))))]) ((((((k+1)+1)+1)+1)+1)+1) n (by omega) (by omega) (by omega) (by simp;omega)
   refine⟨(Scan.mk (k) ((k+1)) (((k+1)+1)) (s1) (Trip.mk (((((k+1)+1)+1)+1)) ((((((k+1)+1)+1)+1)+1))))::l',?_,by simp[q2],?_⟩
   ·rw[cT]
    simp only[bT,bB,bY,aQ,bc,Int.toNat_natCast,lf,bd,lp,lv,az,i7,af,w0,w1,w2,w3,w4,w5]
    try rw[e1]
    try simp only[bT,bB,bY,aQ,bc,Int.toNat_natCast,lf,bd,lp,lv,az,i7,af,w0,w1,w2,w3,w4,w5]
    try rw[wp]
    rw[pc,oX pre (Scan.mk (k) ((k+1)) (((k+1)+1)) (s1) (Trip.mk (((((k+1)+1)+1)+1)) ((((((k+1)+1)+1)+1)+1)))),q1,i4]
    simp only[List.append_assoc,List.singleton_append,Option.some.injEq,Prod.mk.injEq,true_and]
    omega
   ·rw[fL]
    try simp only[cB,oE,bB,bc,decide_true,bd,am,az,af,beq_self_eq_true,if_true,w0,w1,w2,w3,w4,w5]
    try rw[e1]
    try simp only[cB,oE,bB,bc,decide_true,bd,am,az,af,beq_self_eq_true,if_true,w0,w1,w2,w3,w4,w5]
    rw[q3,i4]
    congr 1
    congr 1
    omega
theorem rB (l:List Scan):fY l≤16*l.length:=by
 induction l with
 |nil=>simp[fY]
 |cons x l ih=>rw[i4,List.length_cons];omega
theorem xl (l:List Scan) (k:Int) (h0:0≤k) (hb:k+(fY l:Nat)≤800000000) (hl:l.length≤800000000):∃l',gE G.real TE.real l k=some (k+(fY l:Nat),l')∧l'.length=l.length∧p7 G.real TE.real l' k=some (k+(fY l:Nat)):=by
 obtain⟨l',q1,q2,q3⟩:=wc l [] k 1000000000 (by omega) h0 hb (by simp;omega)
 simp only[List.nil_append,List.length_nil] at q1
 refine⟨l',?_,q2,?_⟩
 ·unfold gE;rw[show(0:Int)=((0:Nat):Int) from rfl,q1,af];dsimp only;rw[ag q2]
 ·unfold p7;simp only[az,q3,qP,af,rl]
end Go.Vs
