/- Part of the proofs of this seat's laws: Ty. No condition. -/
import Derived.Test.YtilplaaijbpilaaGreatVf
set_option linter.unusedVariables false
set_option linter.unusedSimpArgs false
set_option linter.unusedSectionVars false
namespace Go.Vs
open Go.IntWalk
set_option linter.unusedVariables false
set_option linter.unusedSimpArgs false
set_option linter.unusedSectionVars false
structure Leg where
 From:ByteArray
 To:ByteArray
 Start:Int
 Takes:Int
 Days:Int
 Room:Int
structure Network where
 Legs:List Leg
 Off:List Int
 Change:Int
structure Trip where
 Leg:Int
 Day:Int
structure Scan where
 Thing:Int
 At:Int
 Kind:Int
 Place:ByteArray
 Trip:Trip
structure Belief where
 Places:List ByteArray
 Rides:List Trip
structure Spot where
 Place:ByteArray
 At:Int
structure Know where
 n:Network
 at_:Int
 known:Bool
 place:ByteArray
 ride:Trip
 rides:Bool
 free:Bool
 from_:Spot
 to:Spot
 more:Bool
def If (l:List Leg):List (List R):=l.map fun x=>[.v (.string x.From),.v (.string x.To),.v (.int .i64 x.Start),.v (.int .i64 x.Takes),.v (.int .i64 x.Days),.v (.int .i64 x.Room)]
def dLeg (l:List Leg):List (List D):=l.map fun x=>[.r (.v (.string x.From)),.r (.v (.string x.To)),.r (.v (.int .i64 x.Start)),.r (.v (.int .i64 x.Takes)),.r (.v (.int .i64 x.Days)),.r (.v (.int .i64 x.Room))]
def H6 (l:List Int):List (List R):=l.map fun x=>[.v (.int .i64 x)]
def dI64 (l:List Int):List (List D):=l.map fun x=>[.r (.v (.int .i64 x))]
def HP (l:List Scan):List (List R):=l.map fun x=>[.v (.int .i64 x.Thing),.v (.int .i64 x.At),.v (.int .i64 x.Kind),.v (.string x.Place),.v (.int .i64 x.Trip.Leg),.v (.int .i64 x.Trip.Day)]
def Jc (l:List Scan):List (List D):=l.map fun x=>[.r (.v (.int .i64 x.Thing)),.r (.v (.int .i64 x.At)),.r (.v (.int .i64 x.Kind)),.r (.v (.string x.Place)),.r (.v (.int .i64 x.Trip.Leg)),.r (.v (.int .i64 x.Trip.Day))]
def rS (l:List ByteArray):List (List R):=l.map fun x=>[.v (.string x)]
def dS (l:List ByteArray):List (List D):=l.map fun x=>[.r (.v (.string x))]
def JC (l:List Trip):List (List R):=l.map fun x=>[.v (.int .i64 x.Leg),.v (.int .i64 x.Day)]
def Jl (l:List Trip):List (List D):=l.map fun x=>[.r (.v (.int .i64 x.Leg)),.r (.v (.int .i64 x.Day))]
def rU8 (l:List Int):List (List R):=l.map fun x=>[.v (.int .u8 x)]
def dU8 (l:List Int):List (List D):=l.map fun x=>[.r (.v (.int .u8 x))]
inductive Fd where
 |I_nextOf_1 (a0:Network)
def rFd:Fd→R
 |.I_nextOf_1 a0=>.fn 172 [[.s 6 (If a0.Legs),.s 1 (H6 a0.Off),.v (.int .i64 a0.Change)]]
structure TE where
 r_Leg:List Leg→List (List R)
 d_Leg:List Leg→List (List D)
 r_I64:List Int→List (List R)
 d_I64:List Int→List (List D)
 r_Scan:List Scan→List (List R)
 d_Scan:List Scan→List (List D)
 r_S:List ByteArray→List (List R)
 d_S:List ByteArray→List (List D)
 r_Trip:List Trip→List (List R)
 d_Trip:List Trip→List (List D)
 r_U8:List Int→List (List R)
 d_U8:List Int→List (List D)
 r_Fd:Fd→R
def TE.real:TE:=⟨If,dLeg,H6,dI64,HP,Jc,rS,dS,JC,Jl,rU8,dU8,rFd⟩
theorem oq {t:TE} (ht:t=TE.real) (a0:Network):R.fn 172 [[.s 6 (t.r_Leg a0.Legs),.s 1 (t.r_I64 a0.Off),.v (.int .i64 a0.Change)]]=t.r_Fd (.I_nextOf_1 a0):=by subst ht;rfl
def Leg.rs (t:TE) (x:Leg):List R:=[.v (.string x.From),.v (.string x.To),.v (.int .i64 x.Start),.v (.int .i64 x.Takes),.v (.int .i64 x.Days),.v (.int .i64 x.Room)]
def Leg.ds (t:TE) (x:Leg):List D:=[.r (.v (.string x.From)),.r (.v (.string x.To)),.r (.v (.int .i64 x.Start)),.r (.v (.int .i64 x.Takes)),.r (.v (.int .i64 x.Days)),.r (.v (.int .i64 x.Room))]
def Network.rs (t:TE) (x:Network):List R:=[.s 6 (t.r_Leg x.Legs),.s 1 (t.r_I64 x.Off),.v (.int .i64 x.Change)]
def Network.ds (t:TE) (x:Network):List D:=[.o 6 (t.d_Leg x.Legs),.o 1 (t.d_I64 x.Off),.r (.v (.int .i64 x.Change))]
def Trip.rs (t:TE) (x:Trip):List R:=[.v (.int .i64 x.Leg),.v (.int .i64 x.Day)]
def Trip.ds (t:TE) (x:Trip):List D:=[.r (.v (.int .i64 x.Leg)),.r (.v (.int .i64 x.Day))]
def Scan.rs (t:TE) (x:Scan):List R:=[.v (.int .i64 x.Thing),.v (.int .i64 x.At),.v (.int .i64 x.Kind),.v (.string x.Place),.v (.int .i64 x.Trip.Leg),.v (.int .i64 x.Trip.Day)]
def Scan.ds (t:TE) (x:Scan):List D:=[.r (.v (.int .i64 x.Thing)),.r (.v (.int .i64 x.At)),.r (.v (.int .i64 x.Kind)),.r (.v (.string x.Place)),.r (.v (.int .i64 x.Trip.Leg)),.r (.v (.int .i64 x.Trip.Day))]
def Belief.rs (t:TE) (x:Belief):List R:=[.s 1 (t.r_S x.Places),.s 2 (t.r_Trip x.Rides)]
def Belief.ds (t:TE) (x:Belief):List D:=[.o 1 (t.d_S x.Places),.o 2 (t.d_Trip x.Rides)]
def Spot.rs (t:TE) (x:Spot):List R:=[.v (.string x.Place),.v (.int .i64 x.At)]
def Spot.ds (t:TE) (x:Spot):List D:=[.r (.v (.string x.Place)),.r (.v (.int .i64 x.At))]
def Know.rs (t:TE) (x:Know):List R:=[.s 6 (t.r_Leg x.n.Legs),.s 1 (t.r_I64 x.n.Off),.v (.int .i64 x.n.Change),.v (.int .i64 x.at_),.v (.bool x.known),.v (.string x.place),.v (.int .i64 x.ride.Leg),.v (.int .i64 x.ride.Day),.v (.bool x.rides),.v (.bool x.free),.v (.string x.from_.Place),.v (.int .i64 x.from_.At),.v (.string x.to.Place),.v (.int .i64 x.to.At),.v (.bool x.more)]
def Know.ds (t:TE) (x:Know):List D:=[.r (.s 6 (t.r_Leg x.n.Legs)),.r (.s 1 (t.r_I64 x.n.Off)),.r (.v (.int .i64 x.n.Change)),.r (.v (.int .i64 x.at_)),.r (.v (.bool x.known)),.r (.v (.string x.place)),.r (.v (.int .i64 x.ride.Leg)),.r (.v (.int .i64 x.ride.Day)),.r (.v (.bool x.rides)),.r (.v (.bool x.free)),.r (.v (.string x.from_.Place)),.r (.v (.int .i64 x.from_.At)),.r (.v (.string x.to.Place)),.r (.v (.int .i64 x.to.At)),.r (.v (.bool x.more))]
def I64.rs (t:TE) (x:Int):List R:=[.v (.int .i64 x)]
def I64.ds (t:TE) (x:Int):List D:=[.r (.v (.int .i64 x))]
def S.rs (t:TE) (x:ByteArray):List R:=[.v (.string x)]
def S.ds (t:TE) (x:ByteArray):List D:=[.r (.v (.string x))]
def U8.rs (t:TE) (x:Int):List R:=[.v (.int .u8 x)]
def U8.ds (t:TE) (x:Int):List D:=[.r (.v (.int .u8 x))]
theorem kj {α β:Type} (f:α→β) {l:List α} {i:Nat} {x:α} (h:l[i]?=some x):(l.map f)[i]?=some (f x):=by rw[List.getElem?_map,h];rfl
theorem lg {α:Type} {f:α→List D} {q:α→List R} (h:∀x,gF (f x)=q x) (l:List α):toRdss (l.map f)=l.map q:=by
 induction l with
 |nil=>rfl
 |cons x l ih=>simp only[List.map_cons,toRdss,h,ih]
theorem qF {α:Type} {f:α→List D} (h:∀x,cT (f x)=true) (l:List α):cd (l.map f)=true:=by
 induction l with
 |nil=>rfl
 |cons x l ih=>simp only[List.map_cons,cd,h,ih,Bool.and_self]
theorem wO {α:Type} {f:α→List D} (h:∀x,qs (f x)=true) (l:List α):ml (l.map f)=true:=by
 induction l with
 |nil=>rfl
 |cons x l ih=>simp only[List.map_cons,ml,h,ih,Bool.and_self]
theorem HH {t:TE} (ht:t=TE.real) (l:List Int):bsR (t.r_U8 l)=some l:=by
 subst ht
 induction l with
 |nil=>rfl
 |cons x l ih=>
  have e:TE.real.r_U8 (x::l)=[.v (.int .u8 x)]::TE.real.r_U8 l:=rfl
  rw[e,bsR,ih]
  rfl
theorem ue (l:List Leg):TE.real.r_Leg l=l.map (Leg.rs TE.real):=rfl
theorem kJ (l:List Leg):TE.real.d_Leg l=l.map (Leg.ds TE.real):=rfl
theorem Fa (x:Leg):gF (Leg.ds TE.real x)=Leg.rs TE.real x:=by simp[Leg.ds,Leg.rs,gF,oF]
theorem AA (l:List Leg):toRdss (TE.real.d_Leg l)=TE.real.r_Leg l:=by rw[kJ,ue];exact lg Fa l
section
variable {g:G} {t:TE} (hg:g=G.real) (ht:t=TE.real)
include ht
theorem rp (l:List Leg):(t.r_Leg l).length=l.length:=by subst ht;rw[ue];simp
theorem rD (l:List Leg):(t.d_Leg l).length=l.length:=by subst ht;rw[kJ];simp
theorem j6 (l:List Leg) (i:Nat) (x:Leg):(t.d_Leg (l.set i x)).length=(t.d_Leg l).length:=by subst ht;rw[kJ,kJ];simp
theorem yC {l l2:List Leg} {n:Nat} (h:n=(t.d_Leg l).length) (h2:l2.length=l.length):n=(t.d_Leg l2).length:=by rw[h,rD ht,rD ht,h2]
theorem go {l:List Leg} {n:Nat} (h:n=(t.d_Leg l).length):0+n≤(t.d_Leg l).length:=by omega
include hg
theorem aF {l:List Leg} {i:Nat} {x:Leg} (h:l[i]?=some x):(t.r_Leg l)[i]?=some (Leg.rs t x):=by subst ht;rw[ue];exact kj _ h
theorem jQ {l:List Leg} {i:Nat} {x:Leg} (h:l[i]?=some x):(t.d_Leg l)[i]?=some (Leg.ds t x):=by subst ht;rw[kJ];exact kj _ h
theorem fS {l:List Leg} {i:Int} {k:Nat} {x:Leg} (hi:i=((k:Nat):Int)) (h:l[k]?=some x):(t.r_Leg l)[g.nat i]?=some (Leg.rs t x):=by
 subst hg;subst hi;exact aF rfl ht (by simpa [G.real] using h)
theorem aN (l:List Leg):g.dlen (t.d_Leg l)=(t.d_Leg l).length:=by subst hg;rfl
theorem C2 (j:Int) (z:Leg):g.drep j (Leg.ds t z)=t.d_Leg (List.replicate (g.nat j) z):=by subst hg;subst ht;rw[kJ];simp[G.real]
theorem Ci (j:Int) (z:Leg):g.nat j=g.dlen (t.d_Leg (List.replicate (g.nat j) z)):=by subst hg;subst ht;rw[kJ];simp[G.real]
theorem lI (l:List Leg) (i:Nat) (x:Leg):g.dset (t.d_Leg l) i (Leg.ds t x)=t.d_Leg (l.set i x):=by subst hg;subst ht;rw[kJ,kJ];simp[G.real,List.map_set]
theorem iF (l:List Leg):g.rda (t.d_Leg l)=t.r_Leg l:=by subst hg;subst ht;exact AA l
theorem G8 (l:List Leg) (lo n:Nat):g.rd (t.d_Leg l) lo n=t.r_Leg (List.take n (List.drop lo l)):=by
 subst hg;subst ht
 rw[←AA,kJ,kJ]
 simp[G.real]
theorem iG {l:List Leg} {n:Nat} (h:n=(t.d_Leg l).length):g.rd (t.d_Leg l) 0 n=t.r_Leg l:=by rw[G8 hg ht,h,rD ht];simp
theorem dw {l:List Leg} {i:Int} {k:Nat} (hi:i=((k:Nat):Int)) (hc:k<l.length):g.lt i (g.llen (t.r_Leg l))=true:=by subst hg;simp[G.real,rp ht];omega
theorem cR {l:List Leg} {i:Int} {k:Nat} (hi:i=((k:Nat):Int)) (hc:¬k<l.length):g.lt i (g.llen (t.r_Leg l))=false:=by subst hg;simp[G.real,rp ht];omega
theorem gw {l:List Leg} {i:Int} {k:Nat} (hi:i=((k:Nat):Int)) (hc:k<l.length) (hm:(t.r_Leg l).length≤maxLen):g.wrap .i64 (g.add i 1)=((k+1:Nat):Int):=by
 subst hg;rw[rp ht] at hm;unfold maxLen at hm;simp only[G.real];rw[i64_in]<;>omega
@[simp] theorem om (l:List Leg):G.real.llen (TE.real.r_Leg l)=(l.length:Int):=by rw[ue];simp[G.real]
@[simp] theorem my (l:List Leg):G.real.dlen (TE.real.d_Leg l)=l.length:=by rw[kJ];simp[G.real]
@[simp] theorem HI (l:List Leg):(TE.real.r_Leg l).length=l.length:=by rw[ue];simp
end
theorem FX (x:Int):qs (I64.ds TE.real x)=true:=rfl
theorem rj (l:List Int):TE.real.r_I64 l=l.map (I64.rs TE.real):=rfl
theorem gE (l:List Int):TE.real.d_I64 l=l.map (I64.ds TE.real):=rfl
theorem E2 (x:Int):gF (I64.ds TE.real x)=I64.rs TE.real x:=by simp[I64.ds,I64.rs,gF,oF]
theorem E4 (x:Int):cT (I64.ds TE.real x)=true:=by simp[I64.ds,cT,gX]
theorem Bh (l:List Int):toRdss (TE.real.d_I64 l)=TE.real.r_I64 l:=by rw[gE,rj];exact lg E2 l
theorem E9 (l:List Int):cd (TE.real.d_I64 l)=true:=by rw[gE];exact qF E4 l
section
variable {g:G} {t:TE} (hg:g=G.real) (ht:t=TE.real)
include ht
theorem rm (l:List Int):(t.r_I64 l).length=l.length:=by subst ht;rw[rj];simp
theorem mY (l:List Int):(t.d_I64 l).length=l.length:=by subst ht;rw[gE];simp
theorem uP:t.d_I64 []=[]:=by subst ht;rfl
theorem jL (l:List Int) (i:Nat) (x:Int):(t.d_I64 (l.set i x)).length=(t.d_I64 l).length:=by subst ht;rw[gE,gE];simp
theorem mJ {l l2:List Int} {n:Nat} (h:n=(t.d_I64 l).length) (h2:l2.length=l.length):n=(t.d_I64 l2).length:=by rw[h,mY ht,mY ht,h2]
theorem vP (l:List Int):cd (t.d_I64 l)=true:=by subst ht;exact E9 l
theorem df {l:List Int} {n:Nat} (h:n=(t.d_I64 l).length):0+n≤(t.d_I64 l).length:=by omega
include hg
theorem lf {l:List Int} {i:Nat} {x:Int} (h:l[i]?=some x):(t.r_I64 l)[i]?=some (I64.rs t x):=by subst ht;rw[rj];exact kj _ h
theorem bY {l:List Int} {i:Nat} {x:Int} (h:l[i]?=some x):(t.d_I64 l)[i]?=some (I64.ds t x):=by subst ht;rw[gE];exact kj _ h
theorem gf {l:List Int} {i:Int} {k:Nat} {x:Int} (hi:i=((k:Nat):Int)) (h:l[k]?=some x):(t.r_I64 l)[g.nat i]?=some (I64.rs t x):=by
 subst hg;subst hi;exact lf rfl ht (by simpa [G.real] using h)
theorem eM (l:List Int):List.map (I64.ds t) l=t.d_I64 l:=by subst ht;rfl
theorem dg (l:List Int):l.length=g.dlen (t.d_I64 l):=by subst hg;subst ht;rw[gE];simp[G.real]
theorem am (l:List Int):g.dlen (t.d_I64 l)=(t.d_I64 l).length:=by subst hg;rfl
theorem Ep (j:Int) (z:Int):g.drep j (I64.ds t z)=t.d_I64 (List.replicate (g.nat j) z):=by subst hg;subst ht;rw[gE];simp[G.real]
theorem B8 (j:Int) (z:Int):g.nat j=g.dlen (t.d_I64 (List.replicate (g.nat j) z)):=by subst hg;subst ht;rw[gE];simp[G.real]
theorem lB (l:List Int) (i:Nat) (x:Int):g.dset (t.d_I64 l) i (I64.ds t x)=t.d_I64 (l.set i x):=by subst hg;subst ht;rw[gE,gE];simp[G.real,List.map_set]
theorem nv {l m:List Int} {n:Nat} {news:List (List D)} (h1:n=(t.d_I64 l).length) (h2:news=t.d_I64 m):g.dapp (t.d_I64 l) n news=t.d_I64 (l++m):=by
 subst h1;subst h2;subst hg;subst ht;simp only[gE,G.real,List.map_append,List.take_length]
theorem ly {l m:List Int} {n:Nat} {news:List (List D)} (h1:n=(t.d_I64 l).length) (h2:news=t.d_I64 m):g.nadd n (g.dlen news)=g.dlen (t.d_I64 (l++m)):=by
 subst h1;subst h2;subst hg;subst ht;simp only[gE,G.real,List.map_append,List.length_append]
theorem iP {l m:List Int} {n b:Nat} {news:List (List D)} (h1:n=(t.d_I64 l).length) (h2:news=t.d_I64 m) (h:(l.length+m.length)*b≤70368744177664) (hb:0<b:=by decide):0=0∧n≤(t.d_I64 l).length∧n+news.length≤maxLen∧(n+news.length)*b≤140737488355328:=
 sN h1 (mY ht l) (h2▸mY ht m) hb h
theorem rr {m:List Int} {n:Nat} (h:n=(t.d_I64 m).length):g.dsub (t.d_I64 m) 0 n=t.d_I64 m:=by subst h;subst hg;simp[G.real]
theorem iL (l:List Int):g.rda (t.d_I64 l)=t.r_I64 l:=by subst hg;subst ht;exact Bh l
theorem GQ (l:List Int) (lo n:Nat):g.rd (t.d_I64 l) lo n=t.r_I64 (List.take n (List.drop lo l)):=by
 subst hg;subst ht
 rw[←Bh,gE,gE]
 simp[G.real]
theorem eN {l:List Int} {n:Nat} (h:n=(t.d_I64 l).length):g.rd (t.d_I64 l) 0 n=t.r_I64 l:=by rw[GQ hg ht,h,mY ht];simp
theorem eX {l:List Int} {i:Int} {k:Nat} (hi:i=((k:Nat):Int)) (hc:k<l.length):g.lt i (g.llen (t.r_I64 l))=true:=by subst hg;simp[G.real,rm ht];omega
theorem eB {l:List Int} {i:Int} {k:Nat} (hi:i=((k:Nat):Int)) (hc:¬k<l.length):g.lt i (g.llen (t.r_I64 l))=false:=by subst hg;simp[G.real,rm ht];omega
theorem iY {l:List Int} {i:Int} {k:Nat} (hi:i=((k:Nat):Int)) (hc:k<l.length) (hm:(t.r_I64 l).length≤maxLen):g.wrap .i64 (g.add i 1)=((k+1:Nat):Int):=by
 subst hg;rw[rm ht] at hm;unfold maxLen at hm;simp only[G.real];rw[i64_in]<;>omega
@[simp] theorem tB (l:List Int):G.real.llen (TE.real.r_I64 l)=(l.length:Int):=by rw[rj];simp[G.real]
@[simp] theorem eP (l:List Int):G.real.dlen (TE.real.d_I64 l)=l.length:=by rw[gE];simp[G.real]
@[simp] theorem HJ (l:List Int):(TE.real.r_I64 l).length=l.length:=by rw[rj];simp
theorem z8 (m:List Int):g.up (t.r_I64 m)=t.d_I64 m:=by subst hg;subst ht;rw[rj,gE];simp[G.real,I64.rs,I64.ds]
theorem xU {m:List Int} {n:Nat} (h:n=(t.d_I64 m).length):0+n≤(t.d_I64 m).length∧ml (((t.d_I64 m).drop 0).take n)=true:=by
 subst h;subst ht;refine⟨by omega,?_⟩
 simp only[List.drop_zero,List.take_length,gE];exact wO FX m
end
theorem EW (x:Scan):qs (Scan.ds TE.real x)=true:=rfl
theorem nz (l:List Scan):TE.real.r_Scan l=l.map (Scan.rs TE.real):=rfl
theorem d7 (l:List Scan):TE.real.d_Scan l=l.map (Scan.ds TE.real):=rfl
theorem EY (x:Scan):gF (Scan.ds TE.real x)=Scan.rs TE.real x:=by simp[Scan.ds,Scan.rs,gF,oF]
theorem Dy (x:Scan):cT (Scan.ds TE.real x)=true:=by simp[Scan.ds,cT,gX]
theorem ym (l:List Scan):toRdss (TE.real.d_Scan l)=TE.real.r_Scan l:=by rw[d7,nz];exact lg EY l
theorem CX (l:List Scan):cd (TE.real.d_Scan l)=true:=by rw[d7];exact qF Dy l
section
variable {g:G} {t:TE} (hg:g=G.real) (ht:t=TE.real)
include ht
theorem p6 (l:List Scan):(t.r_Scan l).length=l.length:=by subst ht;rw[nz];simp
theorem j5 (l:List Scan):(t.d_Scan l).length=l.length:=by subst ht;rw[d7];simp
theorem iS (l:List Scan) (i:Nat) (x:Scan):(t.d_Scan (l.set i x)).length=(t.d_Scan l).length:=by subst ht;rw[d7,d7];simp
theorem dj {l l2:List Scan} {n:Nat} (h:n=(t.d_Scan l).length) (h2:l2.length=l.length):n=(t.d_Scan l2).length:=by rw[h,j5 ht,j5 ht,h2]
theorem pY (l:List Scan):cd (t.d_Scan l)=true:=by subst ht;exact CX l
theorem bt {l:List Scan} {n:Nat} (h:n=(t.d_Scan l).length):0+n≤(t.d_Scan l).length:=by omega
include hg
theorem nw {l:List Scan} {i:Nat} {x:Scan} (h:l[i]?=some x):(t.r_Scan l)[i]?=some (Scan.rs t x):=by subst ht;rw[nz];exact kj _ h
theorem aG {l:List Scan} {i:Nat} {x:Scan} (h:l[i]?=some x):(t.d_Scan l)[i]?=some (Scan.ds t x):=by subst ht;rw[d7];exact kj _ h
theorem bS {l:List Scan} {i:Int} {k:Nat} {x:Scan} (hi:i=((k:Nat):Int)) (h:l[k]?=some x):(t.r_Scan l)[g.nat i]?=some (Scan.rs t x):=by
 subst hg;subst hi;exact nw rfl ht (by simpa [G.real] using h)
theorem cL (l:List Scan):List.map (Scan.ds t) l=t.d_Scan l:=by subst ht;rfl
theorem bM (l:List Scan):l.length=g.dlen (t.d_Scan l):=by subst hg;subst ht;rw[d7];simp[G.real]
theorem ah (l:List Scan):g.dlen (t.d_Scan l)=(t.d_Scan l).length:=by subst hg;rfl
theorem Ce (j:Int) (z:Scan):g.drep j (Scan.ds t z)=t.d_Scan (List.replicate (g.nat j) z):=by subst hg;subst ht;rw[d7];simp[G.real]
theorem zN (j:Int) (z:Scan):g.nat j=g.dlen (t.d_Scan (List.replicate (g.nat j) z)):=by subst hg;subst ht;rw[d7];simp[G.real]
theorem j7 (l:List Scan) (i:Nat) (x:Scan):g.dset (t.d_Scan l) i (Scan.ds t x)=t.d_Scan (l.set i x):=by subst hg;subst ht;rw[d7,d7];simp[G.real,List.map_set]
theorem eJ {l m:List Scan} {n:Nat} {news:List (List D)} (h1:n=(t.d_Scan l).length) (h2:news=t.d_Scan m):g.dapp (t.d_Scan l) n news=t.d_Scan (l++m):=by
 subst h1;subst h2;subst hg;subst ht;simp only[d7,G.real,List.map_append,List.take_length]
theorem di {l m:List Scan} {n:Nat} {news:List (List D)} (h1:n=(t.d_Scan l).length) (h2:news=t.d_Scan m):g.nadd n (g.dlen news)=g.dlen (t.d_Scan (l++m)):=by
 subst h1;subst h2;subst hg;subst ht;simp only[d7,G.real,List.map_append,List.length_append]
theorem bO {l m:List Scan} {n b:Nat} {news:List (List D)} (h1:n=(t.d_Scan l).length) (h2:news=t.d_Scan m) (h:(l.length+m.length)*b≤70368744177664) (hb:0<b:=by decide):0=0∧n≤(t.d_Scan l).length∧n+news.length≤maxLen∧(n+news.length)*b≤140737488355328:=
 sN h1 (j5 ht l) (h2▸j5 ht m) hb h
theorem gm (l:List Scan):g.rda (t.d_Scan l)=t.r_Scan l:=by subst hg;subst ht;exact ym l
theorem FC (l:List Scan) (lo n:Nat):g.rd (t.d_Scan l) lo n=t.r_Scan (List.take n (List.drop lo l)):=by
 subst hg;subst ht
 rw[←ym,d7,d7]
 simp[G.real]
theorem bH {l:List Scan} {n:Nat} (h:n=(t.d_Scan l).length):g.rd (t.d_Scan l) 0 n=t.r_Scan l:=by rw[FC hg ht,h,j5 ht];simp
theorem Ck (l:List Scan) (a b:Int):g.rsub (t.r_Scan l) a b=t.r_Scan (List.drop (g.nat a) (List.take (g.nat b) l)):=by subst hg;subst ht;rw[nz,nz];simp[G.real]
theorem gr {l:List Scan} {i:Int} {k:Nat} (hi:i=((k:Nat):Int)) (hc:k<l.length):g.lt i (g.llen (t.r_Scan l))=true:=by subst hg;simp[G.real,p6 ht];omega
theorem fz {l:List Scan} {i:Int} {k:Nat} (hi:i=((k:Nat):Int)) (hc:¬k<l.length):g.lt i (g.llen (t.r_Scan l))=false:=by subst hg;simp[G.real,p6 ht];omega
theorem jZ {l:List Scan} {i:Int} {k:Nat} (hi:i=((k:Nat):Int)) (hc:k<l.length) (hm:(t.r_Scan l).length≤maxLen):g.wrap .i64 (g.add i 1)=((k+1:Nat):Int):=by
 subst hg;rw[p6 ht] at hm;unfold maxLen at hm;simp only[G.real];rw[i64_in]<;>omega
@[simp] theorem rG (l:List Scan):G.real.llen (TE.real.r_Scan l)=(l.length:Int):=by rw[nz];simp[G.real]
@[simp] theorem bx (l:List Scan):G.real.dlen (TE.real.d_Scan l)=l.length:=by rw[d7];simp[G.real]
@[simp] theorem Am (l:List Scan):(TE.real.r_Scan l).length=l.length:=by rw[nz];simp
theorem eT (m:List Scan) (lo n:Nat):g.dsub (t.d_Scan m) lo n=t.d_Scan (List.take n (List.drop lo m)):=by subst hg;subst ht;rw[d7,d7];simp[G.real]
theorem kV {m:List Scan} {lo n:Nat} (h:lo+n≤m.length):lo+n≤(t.d_Scan m).length∧ml (((t.d_Scan m).drop lo).take n)=true:=by
 subst ht;refine⟨by rw[j5 rfl];exact h,?_⟩
 rw[d7,←List.map_drop,←List.map_take];exact wO EW _
end
theorem Ir (x:ByteArray):qs (S.ds TE.real x)=true:=rfl
theorem Dt (l:List ByteArray):TE.real.r_S l=l.map (S.rs TE.real):=rfl
theorem n4 (l:List ByteArray):TE.real.d_S l=l.map (S.ds TE.real):=rfl
theorem IX (x:ByteArray):gF (S.ds TE.real x)=S.rs TE.real x:=by simp[S.ds,S.rs,gF,oF]
theorem Jf (x:ByteArray):cT (S.ds TE.real x)=true:=by simp[S.ds,cT,gX]
theorem Gi (l:List ByteArray):toRdss (TE.real.d_S l)=TE.real.r_S l:=by rw[n4,Dt];exact lg IX l
theorem H8 (l:List ByteArray):cd (TE.real.d_S l)=true:=by rw[n4];exact qF Jf l
section
variable {g:G} {t:TE} (hg:g=G.real) (ht:t=TE.real)
include ht
theorem wU (l:List ByteArray):(t.r_S l).length=l.length:=by subst ht;rw[Dt];simp
theorem oS (l:List ByteArray):(t.d_S l).length=l.length:=by subst ht;rw[n4];simp
theorem Bk:t.d_S []=[]:=by subst ht;rfl
theorem FB (l:List ByteArray) (i:Nat) (x:ByteArray):(t.d_S (l.set i x)).length=(t.d_S l).length:=by subst ht;rw[n4,n4];simp
theorem lC {l l2:List ByteArray} {n:Nat} (h:n=(t.d_S l).length) (h2:l2.length=l.length):n=(t.d_S l2).length:=by rw[h,oS ht,oS ht,h2]
theorem AH (l:List ByteArray):cd (t.d_S l)=true:=by subst ht;exact H8 l
theorem dN {l:List ByteArray} {n:Nat} (h:n=(t.d_S l).length):0+n≤(t.d_S l).length:=by omega
include hg
theorem AF {l:List ByteArray} {i:Nat} {x:ByteArray} (h:l[i]?=some x):(t.r_S l)[i]?=some (S.rs t x):=by subst ht;rw[Dt];exact kj _ h
theorem g9 {l:List ByteArray} {i:Nat} {x:ByteArray} (h:l[i]?=some x):(t.d_S l)[i]?=some (S.ds t x):=by subst ht;rw[n4];exact kj _ h
theorem qh {l:List ByteArray} {i:Int} {k:Nat} {x:ByteArray} (hi:i=((k:Nat):Int)) (h:l[k]?=some x):(t.r_S l)[g.nat i]?=some (S.rs t x):=by
 subst hg;subst hi;exact AF rfl ht (by simpa [G.real] using h)
theorem jG (l:List ByteArray):List.map (S.ds t) l=t.d_S l:=by subst ht;rfl
theorem gD (l:List ByteArray):l.length=g.dlen (t.d_S l):=by subst hg;subst ht;rw[n4];simp[G.real]
theorem aq (l:List ByteArray):g.dlen (t.d_S l)=(t.d_S l).length:=by subst hg;rfl
theorem nE:g.dlen (t.d_S [])=0:=by subst hg;subst ht;rfl
theorem G3 (l:List ByteArray) (i:Nat) (x:ByteArray):g.dset (t.d_S l) i (S.ds t x)=t.d_S (l.set i x):=by subst hg;subst ht;rw[n4,n4];simp[G.real,List.map_set]
theorem kr {l m:List ByteArray} {n:Nat} {news:List (List D)} (h1:n=(t.d_S l).length) (h2:news=t.d_S m):g.dapp (t.d_S l) n news=t.d_S (l++m):=by
 subst h1;subst h2;subst hg;subst ht;simp only[n4,G.real,List.map_append,List.take_length]
theorem gY {l m:List ByteArray} {n:Nat} {news:List (List D)} (h1:n=(t.d_S l).length) (h2:news=t.d_S m):g.nadd n (g.dlen news)=g.dlen (t.d_S (l++m)):=by
 subst h1;subst h2;subst hg;subst ht;simp only[n4,G.real,List.map_append,List.length_append]
theorem dF {l m:List ByteArray} {n b:Nat} {news:List (List D)} (h1:n=(t.d_S l).length) (h2:news=t.d_S m) (h:(l.length+m.length)*b≤70368744177664) (hb:0<b:=by decide):0=0∧n≤(t.d_S l).length∧n+news.length≤maxLen∧(n+news.length)*b≤140737488355328:=
 sN h1 (oS ht l) (h2▸oS ht m) hb h
theorem Gp (l:List ByteArray):g.rda (t.d_S l)=t.r_S l:=by subst hg;subst ht;exact Gi l
theorem rd_S (l:List ByteArray) (lo n:Nat):g.rd (t.d_S l) lo n=t.r_S (List.take n (List.drop lo l)):=by
 subst hg;subst ht
 rw[←Gi,n4,n4]
 simp[G.real]
theorem fK {l:List ByteArray} {n:Nat} (h:n=(t.d_S l).length):g.rd (t.d_S l) 0 n=t.r_S l:=by rw[rd_S hg ht,h,oS ht];simp
theorem lK {l:List ByteArray} {i:Int} {k:Nat} (hi:i=((k:Nat):Int)) (hc:k<l.length):g.lt i (g.llen (t.r_S l))=true:=by subst hg;simp[G.real,wU ht];omega
theorem kG {l:List ByteArray} {i:Int} {k:Nat} (hi:i=((k:Nat):Int)) (hc:¬k<l.length):g.lt i (g.llen (t.r_S l))=false:=by subst hg;simp[G.real,wU ht];omega
theorem qe {l:List ByteArray} {i:Int} {k:Nat} (hi:i=((k:Nat):Int)) (hc:k<l.length) (hm:(t.r_S l).length≤maxLen):g.wrap .i64 (g.add i 1)=((k+1:Nat):Int):=by
 subst hg;rw[wU ht] at hm;unfold maxLen at hm;simp only[G.real];rw[i64_in]<;>omega
@[simp] theorem Hb (l:List ByteArray):G.real.llen (TE.real.r_S l)=(l.length:Int):=by rw[Dt];simp[G.real]
@[simp] theorem hG (l:List ByteArray):G.real.dlen (TE.real.d_S l)=l.length:=by rw[n4];simp[G.real]
@[simp] theorem rlenx_S (l:List ByteArray):(TE.real.r_S l).length=l.length:=by rw[Dt];simp
theorem ec (m:List ByteArray) (lo n:Nat):g.dsub (t.d_S m) lo n=t.d_S (List.take n (List.drop lo m)):=by subst hg;subst ht;rw[n4,n4];simp[G.real]
theorem i5 {m:List ByteArray} {lo n:Nat} (h:lo+n≤m.length):lo+n≤(t.d_S m).length∧ml (((t.d_S m).drop lo).take n)=true:=by
 subst ht;refine⟨by rw[oS rfl];exact h,?_⟩
 rw[n4,←List.map_drop,←List.map_take];exact wO Ir _
end
theorem qQ (l:List Trip):TE.real.r_Trip l=l.map (Trip.rs TE.real):=rfl
theorem gH (l:List Trip):TE.real.d_Trip l=l.map (Trip.ds TE.real):=rfl
theorem De (x:Trip):gF (Trip.ds TE.real x)=Trip.rs TE.real x:=by simp[Trip.ds,Trip.rs,gF,oF]
theorem Ds (x:Trip):cT (Trip.ds TE.real x)=true:=by simp[Trip.ds,cT,gX]
theorem yI (l:List Trip):toRdss (TE.real.d_Trip l)=TE.real.r_Trip l:=by rw[gH,qQ];exact lg De l
theorem DV (l:List Trip):cd (TE.real.d_Trip l)=true:=by rw[gH];exact qF Ds l
section
variable {g:G} {t:TE} (hg:g=G.real) (ht:t=TE.real)
include ht
theorem pj (l:List Trip):(t.r_Trip l).length=l.length:=by subst ht;rw[qQ];simp
theorem lv (l:List Trip):(t.d_Trip l).length=l.length:=by subst ht;rw[gH];simp
theorem uq:t.d_Trip []=[]:=by subst ht;rfl
theorem uA (l:List Trip) (i:Nat) (x:Trip):(t.d_Trip (l.set i x)).length=(t.d_Trip l).length:=by subst ht;rw[gH,gH];simp
theorem lm {l l2:List Trip} {n:Nat} (h:n=(t.d_Trip l).length) (h2:l2.length=l.length):n=(t.d_Trip l2).length:=by rw[h,lv ht,lv ht,h2]
theorem Al (l:List Trip):cd (t.d_Trip l)=true:=by subst ht;exact DV l
theorem lp {l:List Trip} {n:Nat} (h:n=(t.d_Trip l).length):0+n≤(t.d_Trip l).length:=by omega
include hg
theorem te {l:List Trip} {i:Nat} {x:Trip} (h:l[i]?=some x):(t.r_Trip l)[i]?=some (Trip.rs t x):=by subst ht;rw[qQ];exact kj _ h
theorem uv {l:List Trip} {i:Nat} {x:Trip} (h:l[i]?=some x):(t.d_Trip l)[i]?=some (Trip.ds t x):=by subst ht;rw[gH];exact kj _ h
theorem nS {l:List Trip} {i:Int} {k:Nat} {x:Trip} (hi:i=((k:Nat):Int)) (h:l[k]?=some x):(t.r_Trip l)[g.nat i]?=some (Trip.rs t x):=by
 subst hg;subst hi;exact te rfl ht (by simpa [G.real] using h)
theorem xZ (l:List Trip):List.map (Trip.ds t) l=t.d_Trip l:=by subst ht;rfl
theorem vp (l:List Trip):l.length=g.dlen (t.d_Trip l):=by subst hg;subst ht;rw[gH];simp[G.real]
theorem aW (l:List Trip):g.dlen (t.d_Trip l)=(t.d_Trip l).length:=by subst hg;rfl
theorem kc:g.dlen (t.d_Trip [])=0:=by subst hg;subst ht;rfl
theorem uT (l:List Trip) (i:Nat) (x:Trip):g.dset (t.d_Trip l) i (Trip.ds t x)=t.d_Trip (l.set i x):=by subst hg;subst ht;rw[gH,gH];simp[G.real,List.map_set]
theorem yH {l m:List Trip} {n:Nat} {news:List (List D)} (h1:n=(t.d_Trip l).length) (h2:news=t.d_Trip m):g.dapp (t.d_Trip l) n news=t.d_Trip (l++m):=by
 subst h1;subst h2;subst hg;subst ht;simp only[gH,G.real,List.map_append,List.take_length]
theorem vD {l m:List Trip} {n:Nat} {news:List (List D)} (h1:n=(t.d_Trip l).length) (h2:news=t.d_Trip m):g.nadd n (g.dlen news)=g.dlen (t.d_Trip (l++m)):=by
 subst h1;subst h2;subst hg;subst ht;simp only[gH,G.real,List.map_append,List.length_append]
theorem sd {l m:List Trip} {n b:Nat} {news:List (List D)} (h1:n=(t.d_Trip l).length) (h2:news=t.d_Trip m) (h:(l.length+m.length)*b≤70368744177664) (hb:0<b:=by decide):0=0∧n≤(t.d_Trip l).length∧n+news.length≤maxLen∧(n+news.length)*b≤140737488355328:=
 sN h1 (lv ht l) (h2▸lv ht m) hb h
theorem DH (l:List Trip):g.rda (t.d_Trip l)=t.r_Trip l:=by subst hg;subst ht;exact yI l
theorem FI (l:List Trip) (lo n:Nat):g.rd (t.d_Trip l) lo n=t.r_Trip (List.take n (List.drop lo l)):=by
 subst hg;subst ht
 rw[←yI,gH,gH]
 simp[G.real]
theorem mI {l:List Trip} {n:Nat} (h:n=(t.d_Trip l).length):g.rd (t.d_Trip l) 0 n=t.r_Trip l:=by rw[FI hg ht,h,lv ht];simp
theorem pd {l:List Trip} {i:Int} {k:Nat} (hi:i=((k:Nat):Int)) (hc:k<l.length):g.lt i (g.llen (t.r_Trip l))=true:=by subst hg;simp[G.real,pj ht];omega
theorem nT {l:List Trip} {i:Int} {k:Nat} (hi:i=((k:Nat):Int)) (hc:¬k<l.length):g.lt i (g.llen (t.r_Trip l))=false:=by subst hg;simp[G.real,pj ht];omega
theorem tX {l:List Trip} {i:Int} {k:Nat} (hi:i=((k:Nat):Int)) (hc:k<l.length) (hm:(t.r_Trip l).length≤maxLen):g.wrap .i64 (g.add i 1)=((k+1:Nat):Int):=by
 subst hg;rw[pj ht] at hm;unfold maxLen at hm;simp only[G.real];rw[i64_in]<;>omega
@[simp] theorem Cr (l:List Trip):G.real.llen (TE.real.r_Trip l)=(l.length:Int):=by rw[qQ];simp[G.real]
@[simp] theorem lO (l:List Trip):G.real.dlen (TE.real.d_Trip l)=l.length:=by rw[gH];simp[G.real]
@[simp] theorem HB (l:List Trip):(TE.real.r_Trip l).length=l.length:=by rw[qQ];simp
end
theorem DX (l:List Int):TE.real.r_U8 l=l.map (U8.rs TE.real):=rfl
theorem vh (l:List Int):TE.real.d_U8 l=l.map (U8.ds TE.real):=rfl
theorem GU (x:Int):gF (U8.ds TE.real x)=U8.rs TE.real x:=by simp[U8.ds,U8.rs,gF,oF]
theorem GA (l:List Int):toRdss (TE.real.d_U8 l)=TE.real.r_U8 l:=by rw[vh,DX];exact lg GU l
section
variable {g:G} {t:TE} (hg:g=G.real) (ht:t=TE.real)
include ht
theorem EP (l:List Int):(t.d_U8 l).length=l.length:=by subst ht;rw[vh];simp
theorem F4 {l:List Int} {n:Nat} (h:n=(t.d_U8 l).length):0+n≤(t.d_U8 l).length:=by omega
include hg
theorem HC (l:List Int):List.map (U8.ds t) l=t.d_U8 l:=by subst ht;rfl
theorem FN (l:List Int):l.length=g.dlen (t.d_U8 l):=by subst hg;subst ht;rw[vh];simp[G.real]
theorem AV (l:List Int):g.dlen (t.d_U8 l)=(t.d_U8 l).length:=by subst hg;rfl
theorem IC (l:List Int) (lo n:Nat):g.rd (t.d_U8 l) lo n=t.r_U8 (List.take n (List.drop lo l)):=by
 subst hg;subst ht
 rw[←GA,vh,vh]
 simp[G.real]
theorem Gu {l:List Int} {n:Nat} (h:n=(t.d_U8 l).length):g.rd (t.d_U8 l) 0 n=t.r_U8 l:=by rw[IC hg ht,h,EP ht];simp
@[simp] theorem llen_U8 (l:List Int):G.real.llen (TE.real.r_U8 l)=(l.length:Int):=by rw[DX];simp[G.real]
@[simp] theorem Ih (l:List Int):G.real.dlen (TE.real.d_U8 l)=l.length:=by rw[vh];simp[G.real]
@[simp] theorem Ii (l:List Int):(TE.real.r_U8 l).length=l.length:=by rw[DX];simp
end
end Go.Vs
