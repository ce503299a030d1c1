/- Part of the proofs of this seat's laws: Ty. No condition. -/
import Derived.Test.YtolplompnmammaaGreatDoorVf
set_option linter.unusedVariables false
set_option linter.unusedSimpArgs false
set_option linter.unusedSectionVars false
namespace Go.Vs
open Go.IntWalk
set_option linter.unusedVariables false
set_option linter.unusedSimpArgs false
set_option linter.unusedSectionVars false
structure Leg where
 From:ByteArray
 To:ByteArray
 Start:Int
 Takes:Int
 Days:Int
 Room:Int
structure Network where
 Legs:List Leg
 Off:List Int
 Change:Int
structure Trip where
 Leg:Int
 Day:Int
structure Scan where
 Thing:Int
 At:Int
 Kind:Int
 Place:ByteArray
 Trip:Trip
structure Belief where
 Places:List ByteArray
 Rides:List Trip
structure Cur where
 b:List Int
 i:Int
 h:Int
structure Spot where
 Place:ByteArray
 At:Int
structure Know where
 n:Network
 at_:Int
 known:Bool
 place:ByteArray
 ride:Trip
 rides:Bool
 free:Bool
 from_:Spot
 to:Spot
 more:Bool
def rU8 (l:List Int):List (List R):=l.map fun x=>[.v (.int .u8 x)]
def dU8 (l:List Int):List (List D):=l.map fun x=>[.r (.v (.int .u8 x))]
def Gd (l:List Leg):List (List R):=l.map fun x=>[.v (.string x.From),.v (.string x.To),.v (.int .i64 x.Start),.v (.int .i64 x.Takes),.v (.int .i64 x.Days),.v (.int .i64 x.Room)]
def dLeg (l:List Leg):List (List D):=l.map fun x=>[.r (.v (.string x.From)),.r (.v (.string x.To)),.r (.v (.int .i64 x.Start)),.r (.v (.int .i64 x.Takes)),.r (.v (.int .i64 x.Days)),.r (.v (.int .i64 x.Room))]
def FI (l:List Int):List (List R):=l.map fun x=>[.v (.int .i64 x)]
def dI64 (l:List Int):List (List D):=l.map fun x=>[.r (.v (.int .i64 x))]
def FB (l:List Scan):List (List R):=l.map fun x=>[.v (.int .i64 x.Thing),.v (.int .i64 x.At),.v (.int .i64 x.Kind),.v (.string x.Place),.v (.int .i64 x.Trip.Leg),.v (.int .i64 x.Trip.Day)]
def Fq (l:List Scan):List (List D):=l.map fun x=>[.r (.v (.int .i64 x.Thing)),.r (.v (.int .i64 x.At)),.r (.v (.int .i64 x.Kind)),.r (.v (.string x.Place)),.r (.v (.int .i64 x.Trip.Leg)),.r (.v (.int .i64 x.Trip.Day))]
def rS (l:List ByteArray):List (List R):=l.map fun x=>[.v (.string x)]
def dS (l:List ByteArray):List (List D):=l.map fun x=>[.r (.v (.string x))]
def FU (l:List Trip):List (List R):=l.map fun x=>[.v (.int .i64 x.Leg),.v (.int .i64 x.Day)]
def FD (l:List Trip):List (List D):=l.map fun x=>[.r (.v (.int .i64 x.Leg)),.r (.v (.int .i64 x.Day))]
inductive Fd where
 |I_nextOf_1 (a0:Network)
def rFd:Fd→R
 |.I_nextOf_1 a0=>.fn 132 [[.s 6 (Gd a0.Legs),.s 1 (FI a0.Off),.v (.int .i64 a0.Change)]]
structure TE where
 r_U8:List Int→List (List R)
 d_U8:List Int→List (List D)
 r_Leg:List Leg→List (List R)
 d_Leg:List Leg→List (List D)
 r_I64:List Int→List (List R)
 d_I64:List Int→List (List D)
 r_Scan:List Scan→List (List R)
 d_Scan:List Scan→List (List D)
 r_S:List ByteArray→List (List R)
 d_S:List ByteArray→List (List D)
 r_Trip:List Trip→List (List R)
 d_Trip:List Trip→List (List D)
 r_Fd:Fd→R
def TE.real:TE:=⟨rU8,dU8,Gd,dLeg,FI,dI64,FB,Fq,rS,dS,FU,FD,rFd⟩
theorem kN {t:TE} (ht:t=TE.real) (a0:Network):R.fn 132 [[.s 6 (t.r_Leg a0.Legs),.s 1 (t.r_I64 a0.Off),.v (.int .i64 a0.Change)]]=t.r_Fd (.I_nextOf_1 a0):=by subst ht;rfl
def Leg.rs (t:TE) (x:Leg):List R:=[.v (.string x.From),.v (.string x.To),.v (.int .i64 x.Start),.v (.int .i64 x.Takes),.v (.int .i64 x.Days),.v (.int .i64 x.Room)]
def Leg.ds (t:TE) (x:Leg):List D:=[.r (.v (.string x.From)),.r (.v (.string x.To)),.r (.v (.int .i64 x.Start)),.r (.v (.int .i64 x.Takes)),.r (.v (.int .i64 x.Days)),.r (.v (.int .i64 x.Room))]
def Network.rs (t:TE) (x:Network):List R:=[.s 6 (t.r_Leg x.Legs),.s 1 (t.r_I64 x.Off),.v (.int .i64 x.Change)]
def Network.ds (t:TE) (x:Network):List D:=[.o 6 (t.d_Leg x.Legs),.o 1 (t.d_I64 x.Off),.r (.v (.int .i64 x.Change))]
def Trip.rs (t:TE) (x:Trip):List R:=[.v (.int .i64 x.Leg),.v (.int .i64 x.Day)]
def Trip.ds (t:TE) (x:Trip):List D:=[.r (.v (.int .i64 x.Leg)),.r (.v (.int .i64 x.Day))]
def Scan.rs (t:TE) (x:Scan):List R:=[.v (.int .i64 x.Thing),.v (.int .i64 x.At),.v (.int .i64 x.Kind),.v (.string x.Place),.v (.int .i64 x.Trip.Leg),.v (.int .i64 x.Trip.Day)]
def Scan.ds (t:TE) (x:Scan):List D:=[.r (.v (.int .i64 x.Thing)),.r (.v (.int .i64 x.At)),.r (.v (.int .i64 x.Kind)),.r (.v (.string x.Place)),.r (.v (.int .i64 x.Trip.Leg)),.r (.v (.int .i64 x.Trip.Day))]
def Belief.rs (t:TE) (x:Belief):List R:=[.s 1 (t.r_S x.Places),.s 2 (t.r_Trip x.Rides)]
def Belief.ds (t:TE) (x:Belief):List D:=[.o 1 (t.d_S x.Places),.o 2 (t.d_Trip x.Rides)]
def Cur.rs (t:TE) (x:Cur):List R:=[.s 1 (t.r_U8 x.b),.v (.int .i64 x.i),.v (.int .i64 x.h)]
def Cur.ds (t:TE) (x:Cur):List D:=[.r (.s 1 (t.r_U8 x.b)),.r (.v (.int .i64 x.i)),.r (.v (.int .i64 x.h))]
def Spot.rs (t:TE) (x:Spot):List R:=[.v (.string x.Place),.v (.int .i64 x.At)]
def Spot.ds (t:TE) (x:Spot):List D:=[.r (.v (.string x.Place)),.r (.v (.int .i64 x.At))]
def Know.rs (t:TE) (x:Know):List R:=[.s 6 (t.r_Leg x.n.Legs),.s 1 (t.r_I64 x.n.Off),.v (.int .i64 x.n.Change),.v (.int .i64 x.at_),.v (.bool x.known),.v (.string x.place),.v (.int .i64 x.ride.Leg),.v (.int .i64 x.ride.Day),.v (.bool x.rides),.v (.bool x.free),.v (.string x.from_.Place),.v (.int .i64 x.from_.At),.v (.string x.to.Place),.v (.int .i64 x.to.At),.v (.bool x.more)]
def Know.ds (t:TE) (x:Know):List D:=[.r (.s 6 (t.r_Leg x.n.Legs)),.r (.s 1 (t.r_I64 x.n.Off)),.r (.v (.int .i64 x.n.Change)),.r (.v (.int .i64 x.at_)),.r (.v (.bool x.known)),.r (.v (.string x.place)),.r (.v (.int .i64 x.ride.Leg)),.r (.v (.int .i64 x.ride.Day)),.r (.v (.bool x.rides)),.r (.v (.bool x.free)),.r (.v (.string x.from_.Place)),.r (.v (.int .i64 x.from_.At)),.r (.v (.string x.to.Place)),.r (.v (.int .i64 x.to.At)),.r (.v (.bool x.more))]
def U8.rs (t:TE) (x:Int):List R:=[.v (.int .u8 x)]
def U8.ds (t:TE) (x:Int):List D:=[.r (.v (.int .u8 x))]
def I64.rs (t:TE) (x:Int):List R:=[.v (.int .i64 x)]
def I64.ds (t:TE) (x:Int):List D:=[.r (.v (.int .i64 x))]
def S.rs (t:TE) (x:ByteArray):List R:=[.v (.string x)]
def S.ds (t:TE) (x:ByteArray):List D:=[.r (.v (.string x))]
theorem fZ {α β:Type} (f:α→β) {l:List α} {i:Nat} {x:α} (h:l[i]?=some x):(l.map f)[i]?=some (f x):=by rw[List.getElem?_map,h];rfl
theorem jy {α:Type} {f:α→List D} {q:α→List R} (h:∀x,fg (f x)=q x) (l:List α):toRdss (l.map f)=l.map q:=by
 induction l with
 |nil=>rfl
 |cons x l ih=>simp only[List.map_cons,toRdss,h,ih]
theorem BC {α:Type} {f:α→List D} (h:∀x,fD (f x)=true) (l:List α):fY (l.map f)=true:=by
 induction l with
 |nil=>rfl
 |cons x l ih=>simp only[List.map_cons,fY,h,ih,Bool.and_self]
theorem ng {α:Type} {f:α→List D} (h:∀x,lY (f x)=true) (l:List α):g7 (l.map f)=true:=by
 induction l with
 |nil=>rfl
 |cons x l ih=>simp only[List.map_cons,g7,h,ih,Bool.and_self]
theorem xX (l:List Int):TE.real.r_U8 l=l.map (U8.rs TE.real):=rfl
theorem E7 (l:List Int):TE.real.d_U8 l=l.map (U8.ds TE.real):=rfl
section
variable {g:G} {t:TE} (hg:g=G.real) (ht:t=TE.real)
include ht
theorem qi (l:List Int):(t.r_U8 l).length=l.length:=by subst ht;rw[xX];simp
include hg
theorem vL {l:List Int} {i:Nat} {x:Int} (h:l[i]?=some x):(t.r_U8 l)[i]?=some (U8.rs t x):=by subst ht;rw[xX];exact fZ _ h
theorem zi {l:List Int} {i:Int} {k:Nat} {x:Int} (hi:i=((k:Nat):Int)) (h:l[k]?=some x):(t.r_U8 l)[g.nat i]?=some (U8.rs t x):=by
 subst hg;subst hi;exact vL rfl ht (by simpa [G.real] using h)
theorem vH {l:List Int} {i:Int} {k:Nat} (hi:i=((k:Nat):Int)) (hc:k<l.length):g.lt i (g.llen (t.r_U8 l))=true:=by subst hg;simp[G.real,qi ht];omega
theorem tz {l:List Int} {i:Int} {k:Nat} (hi:i=((k:Nat):Int)) (hc:¬k<l.length):g.lt i (g.llen (t.r_U8 l))=false:=by subst hg;simp[G.real,qi ht];omega
theorem Bn {l:List Int} {i:Int} {k:Nat} (hi:i=((k:Nat):Int)) (hc:k<l.length) (hm:(t.r_U8 l).length≤maxLen):g.wrap .i64 (g.add i 1)=((k+1:Nat):Int):=by
 subst hg;rw[qi ht] at hm;unfold maxLen at hm;simp only[G.real];rw[i64_in]<;>omega
@[simp] theorem CX (l:List Int):G.real.llen (TE.real.r_U8 l)=(l.length:Int):=by rw[xX];simp[G.real]
@[simp] theorem FY (l:List Int):G.real.dlen (TE.real.d_U8 l)=l.length:=by rw[E7];simp[G.real]
@[simp] theorem FP (l:List Int):(TE.real.r_U8 l).length=l.length:=by rw[xX];simp
end
theorem qx (l:List Leg):TE.real.r_Leg l=l.map (Leg.rs TE.real):=rfl
theorem my (l:List Leg):TE.real.d_Leg l=l.map (Leg.ds TE.real):=rfl
theorem DG (x:Leg):fg (Leg.ds TE.real x)=Leg.rs TE.real x:=by simp[Leg.ds,Leg.rs,fg,lK]
theorem Dz (l:List Leg):toRdss (TE.real.d_Leg l)=TE.real.r_Leg l:=by rw[my,qx];exact jy DG l
section
variable {g:G} {t:TE} (hg:g=G.real) (ht:t=TE.real)
include ht
theorem n5 (l:List Leg):(t.r_Leg l).length=l.length:=by subst ht;rw[qx];simp
theorem rX (l:List Leg):(t.d_Leg l).length=l.length:=by subst ht;rw[my];simp
theorem z6:t.d_Leg []=[]:=by subst ht;rfl
include hg
theorem bm {l:List Leg} {i:Nat} {x:Leg} (h:l[i]?=some x):(t.r_Leg l)[i]?=some (Leg.rs t x):=by subst ht;rw[qx];exact fZ _ h
theorem sX {l:List Leg} {i:Nat} {x:Leg} (h:l[i]?=some x):(t.d_Leg l)[i]?=some (Leg.ds t x):=by subst ht;rw[my];exact fZ _ h
theorem eD {l:List Leg} {i:Int} {k:Nat} {x:Leg} (hi:i=((k:Nat):Int)) (h:l[k]?=some x):(t.r_Leg l)[g.nat i]?=some (Leg.rs t x):=by
 subst hg;subst hi;exact bm rfl ht (by simpa [G.real] using h)
theorem yp (l:List Leg):List.map (Leg.ds t) l=t.d_Leg l:=by subst ht;rfl
theorem vg (l:List Leg):l.length=g.dlen (t.d_Leg l):=by subst hg;subst ht;rw[my];simp[G.real]
theorem fo (l:List Leg):g.dlen (t.d_Leg l)=(t.d_Leg l).length:=by subst hg;rfl
theorem nn:g.dlen (t.d_Leg [])=0:=by subst hg;subst ht;rfl
theorem xR {l m:List Leg} {n:Nat} {news:List (List D)} (h1:n=(t.d_Leg l).length) (h2:news=t.d_Leg m):g.dapp (t.d_Leg l) n news=t.d_Leg (l++m):=by
 subst h1;subst h2;subst hg;subst ht;simp only[my,G.real,List.map_append,List.take_length]
theorem vd {l m:List Leg} {n:Nat} {news:List (List D)} (h1:n=(t.d_Leg l).length) (h2:news=t.d_Leg m):g.nadd n (g.dlen news)=g.dlen (t.d_Leg (l++m)):=by
 subst h1;subst h2;subst hg;subst ht;simp only[my,G.real,List.map_append,List.length_append]
theorem qG {l m:List Leg} {n b:Nat} {news:List (List D)} (h1:n=(t.d_Leg l).length) (h2:news=t.d_Leg m) (h:(l.length+m.length)*b≤70368744177664) (hb:0<b:=by decide):0=0∧n≤(t.d_Leg l).length∧n+news.length≤maxLen∧(n+news.length)*b≤140737488355328:=
 nO h1 (rX ht l) (h2▸rX ht m) hb h
theorem yO (l:List Leg):g.rda (t.d_Leg l)=t.r_Leg l:=by subst hg;subst ht;exact Dz l
theorem ee {l:List Leg} {i:Int} {k:Nat} (hi:i=((k:Nat):Int)) (hc:k<l.length):g.lt i (g.llen (t.r_Leg l))=true:=by subst hg;simp[G.real,n5 ht];omega
theorem dJ {l:List Leg} {i:Int} {k:Nat} (hi:i=((k:Nat):Int)) (hc:¬k<l.length):g.lt i (g.llen (t.r_Leg l))=false:=by subst hg;simp[G.real,n5 ht];omega
theorem gB {l:List Leg} {i:Int} {k:Nat} (hi:i=((k:Nat):Int)) (hc:k<l.length) (hm:(t.r_Leg l).length≤maxLen):g.wrap .i64 (g.add i 1)=((k+1:Nat):Int):=by
 subst hg;rw[n5 ht] at hm;unfold maxLen at hm;simp only[G.real];rw[i64_in]<;>omega
@[simp] theorem qY (l:List Leg):G.real.llen (TE.real.r_Leg l)=(l.length:Int):=by rw[qx];simp[G.real]
@[simp] theorem zw (l:List Leg):G.real.dlen (TE.real.d_Leg l)=l.length:=by rw[my];simp[G.real]
@[simp] theorem EV (l:List Leg):(TE.real.r_Leg l).length=l.length:=by rw[qx];simp
end
theorem CR (x:Int):lY (I64.ds TE.real x)=true:=rfl
theorem oJ (l:List Int):TE.real.r_I64 l=l.map (I64.rs TE.real):=rfl
theorem fj (l:List Int):TE.real.d_I64 l=l.map (I64.ds TE.real):=rfl
theorem C8 (x:Int):fg (I64.ds TE.real x)=I64.rs TE.real x:=by simp[I64.ds,I64.rs,fg,lK]
theorem Dc (x:Int):fD (I64.ds TE.real x)=true:=by simp[I64.ds,fD,kg]
theorem yh (l:List Int):toRdss (TE.real.d_I64 l)=TE.real.r_I64 l:=by rw[fj,oJ];exact jy C8 l
theorem Dg (l:List Int):fY (TE.real.d_I64 l)=true:=by rw[fj];exact BC Dc l
section
variable {g:G} {t:TE} (hg:g=G.real) (ht:t=TE.real)
include ht
theorem ow (l:List Int):(t.r_I64 l).length=l.length:=by subst ht;rw[oJ];simp
theorem n7 (l:List Int):(t.d_I64 l).length=l.length:=by subst ht;rw[fj];simp
theorem oC:t.d_I64 []=[]:=by subst ht;rfl
theorem jG (l:List Int) (i:Nat) (x:Int):(t.d_I64 (l.set i x)).length=(t.d_I64 l).length:=by subst ht;rw[fj,fj];simp
theorem Ab (l:List Int):fY (t.d_I64 l)=true:=by subst ht;exact Dg l
theorem qd {l:List Int} {n:Nat} (h:n=(t.d_I64 l).length):0+n≤(t.d_I64 l).length:=by omega
include hg
theorem fM {l:List Int} {i:Nat} {x:Int} (h:l[i]?=some x):(t.r_I64 l)[i]?=some (I64.rs t x):=by subst ht;rw[oJ];exact fZ _ h
theorem bt {l:List Int} {i:Nat} {x:Int} (h:l[i]?=some x):(t.d_I64 l)[i]?=some (I64.ds t x):=by subst ht;rw[fj];exact fZ _ h
theorem gm {l:List Int} {i:Int} {k:Nat} {x:Int} (hi:i=((k:Nat):Int)) (h:l[k]?=some x):(t.r_I64 l)[g.nat i]?=some (I64.rs t x):=by
 subst hg;subst hi;exact fM rfl ht (by simpa [G.real] using h)
theorem dN (l:List Int):List.map (I64.ds t) l=t.d_I64 l:=by subst ht;rfl
theorem df (l:List Int):l.length=g.dlen (t.d_I64 l):=by subst hg;subst ht;rw[fj];simp[G.real]
theorem aq (l:List Int):g.dlen (t.d_I64 l)=(t.d_I64 l).length:=by subst hg;rfl
theorem kV (l:List Int) (i:Nat) (x:Int):g.dset (t.d_I64 l) i (I64.ds t x)=t.d_I64 (l.set i x):=by subst hg;subst ht;rw[fj,fj];simp[G.real,List.map_set]
theorem ny {l m:List Int} {n:Nat} {news:List (List D)} (h1:n=(t.d_I64 l).length) (h2:news=t.d_I64 m):g.dapp (t.d_I64 l) n news=t.d_I64 (l++m):=by
 subst h1;subst h2;subst hg;subst ht;simp only[fj,G.real,List.map_append,List.take_length]
theorem lh {l m:List Int} {n:Nat} {news:List (List D)} (h1:n=(t.d_I64 l).length) (h2:news=t.d_I64 m):g.nadd n (g.dlen news)=g.dlen (t.d_I64 (l++m)):=by
 subst h1;subst h2;subst hg;subst ht;simp only[fj,G.real,List.map_append,List.length_append]
theorem iM {l m:List Int} {n b:Nat} {news:List (List D)} (h1:n=(t.d_I64 l).length) (h2:news=t.d_I64 m) (h:(l.length+m.length)*b≤70368744177664) (hb:0<b:=by decide):0=0∧n≤(t.d_I64 l).length∧n+news.length≤maxLen∧(n+news.length)*b≤140737488355328:=
 nO h1 (n7 ht l) (h2▸n7 ht m) hb h
theorem n6 {m:List Int} {n:Nat} (h:n=(t.d_I64 m).length):g.dsub (t.d_I64 m) 0 n=t.d_I64 m:=by subst h;subst hg;simp[G.real]
theorem t6 (l:List Int):g.rda (t.d_I64 l)=t.r_I64 l:=by subst hg;subst ht;exact yh l
theorem f6 (l:List Int):g.rda (List.map (I64.ds t) l)=t.r_I64 l:=by rw[dN hg ht];exact t6 hg ht l
theorem DY (l:List Int) (lo n:Nat):g.rd (t.d_I64 l) lo n=t.r_I64 (List.take n (List.drop lo l)):=by
 subst hg;subst ht
 rw[←yh,fj,fj]
 simp[G.real]
theorem ui {l:List Int} {n:Nat} (h:n=(t.d_I64 l).length):g.rd (t.d_I64 l) 0 n=t.r_I64 l:=by rw[DY hg ht,h,n7 ht];simp
theorem gg {l:List Int} {i:Int} {k:Nat} (hi:i=((k:Nat):Int)) (hc:k<l.length):g.lt i (g.llen (t.r_I64 l))=true:=by subst hg;simp[G.real,ow ht];omega
theorem fq {l:List Int} {i:Int} {k:Nat} (hi:i=((k:Nat):Int)) (hc:¬k<l.length):g.lt i (g.llen (t.r_I64 l))=false:=by subst hg;simp[G.real,ow ht];omega
theorem jB {l:List Int} {i:Int} {k:Nat} (hi:i=((k:Nat):Int)) (hc:k<l.length) (hm:(t.r_I64 l).length≤maxLen):g.wrap .i64 (g.add i 1)=((k+1:Nat):Int):=by
 subst hg;rw[ow ht] at hm;unfold maxLen at hm;simp only[G.real];rw[i64_in]<;>omega
@[simp] theorem Cy (l:List Int):G.real.llen (TE.real.r_I64 l)=(l.length:Int):=by rw[oJ];simp[G.real]
@[simp] theorem dP (l:List Int):G.real.dlen (TE.real.d_I64 l)=l.length:=by rw[fj];simp[G.real]
@[simp] theorem EX (l:List Int):(TE.real.r_I64 l).length=l.length:=by rw[oJ];simp
theorem wI (m:List Int):g.up (t.r_I64 m)=t.d_I64 m:=by subst hg;subst ht;rw[oJ,fj];simp[G.real,I64.rs,I64.ds]
theorem vw {m:List Int} {n:Nat} (h:n=(t.d_I64 m).length):0+n≤(t.d_I64 m).length∧g7 (((t.d_I64 m).drop 0).take n)=true:=by
 subst h;subst ht;refine⟨by omega,?_⟩
 simp only[List.drop_zero,List.take_length,fj];exact ng CR m
end
theorem vf (x:Scan):lY (Scan.ds TE.real x)=true:=rfl
theorem jP (l:List Scan):TE.real.r_Scan l=l.map (Scan.rs TE.real):=rfl
theorem f7 (l:List Scan):TE.real.d_Scan l=l.map (Scan.ds TE.real):=rfl
theorem BF (x:Scan):fg (Scan.ds TE.real x)=Scan.rs TE.real x:=by simp[Scan.ds,Scan.rs,fg,lK]
theorem Bd (l:List Scan):toRdss (TE.real.d_Scan l)=TE.real.r_Scan l:=by rw[f7,jP];exact jy BF l
section
variable {g:G} {t:TE} (hg:g=G.real) (ht:t=TE.real)
include ht
theorem mC (l:List Scan):(t.r_Scan l).length=l.length:=by subst ht;rw[jP];simp
theorem iP (l:List Scan):(t.d_Scan l).length=l.length:=by subst ht;rw[f7];simp
theorem tq {l l2:List Scan} {n:Nat} (h:n=(t.d_Scan l).length) (h2:l2.length=l.length):n=(t.d_Scan l2).length:=by rw[h,iP ht,iP ht,h2]
include hg
theorem mD {l:List Scan} {i:Nat} {x:Scan} (h:l[i]?=some x):(t.r_Scan l)[i]?=some (Scan.rs t x):=by subst ht;rw[jP];exact fZ _ h
theorem bo {l:List Scan} {i:Nat} {x:Scan} (h:l[i]?=some x):(t.d_Scan l)[i]?=some (Scan.ds t x):=by subst ht;rw[f7];exact fZ _ h
theorem fP {l:List Scan} {i:Int} {k:Nat} {x:Scan} (hi:i=((k:Nat):Int)) (h:l[k]?=some x):(t.r_Scan l)[g.nat i]?=some (Scan.rs t x):=by
 subst hg;subst hi;exact mD rfl ht (by simpa [G.real] using h)
theorem aN (l:List Scan):List.map (Scan.ds t) l=t.d_Scan l:=by subst ht;rfl
theorem aC (l:List Scan):l.length=g.dlen (t.d_Scan l):=by subst hg;subst ht;rw[f7];simp[G.real]
theorem ae (l:List Scan):g.dlen (t.d_Scan l)=(t.d_Scan l).length:=by subst hg;rfl
theorem ba {l m:List Scan} {n:Nat} {news:List (List D)} (h1:n=(t.d_Scan l).length) (h2:news=t.d_Scan m):g.dapp (t.d_Scan l) n news=t.d_Scan (l++m):=by
 subst h1;subst h2;subst hg;subst ht;simp only[f7,G.real,List.map_append,List.take_length]
theorem aT {l m:List Scan} {n:Nat} {news:List (List D)} (h1:n=(t.d_Scan l).length) (h2:news=t.d_Scan m):g.nadd n (g.dlen news)=g.dlen (t.d_Scan (l++m)):=by
 subst h1;subst h2;subst hg;subst ht;simp only[f7,G.real,List.map_append,List.length_append]
theorem aA {l m:List Scan} {n b:Nat} {news:List (List D)} (h1:n=(t.d_Scan l).length) (h2:news=t.d_Scan m) (h:(l.length+m.length)*b≤70368744177664) (hb:0<b:=by decide):0=0∧n≤(t.d_Scan l).length∧n+news.length≤maxLen∧(n+news.length)*b≤140737488355328:=
 nO h1 (iP ht l) (h2▸iP ht m) hb h
theorem mp {m:List Scan} {n:Nat} (h:n=(t.d_Scan m).length):g.dsub (t.d_Scan m) 0 n=t.d_Scan m:=by subst h;subst hg;simp[G.real]
theorem u7 (l:List Scan):g.rda (t.d_Scan l)=t.r_Scan l:=by subst hg;subst ht;exact Bd l
theorem z7 (l:List Scan) (a b:Int):g.rsub (t.r_Scan l) a b=t.r_Scan (List.drop (g.nat a) (List.take (g.nat b) l)):=by subst hg;subst ht;rw[jP,jP];simp[G.real]
theorem lV {l:List Scan} {i:Int} {k:Nat} (hi:i=((k:Nat):Int)) (hc:k<l.length):g.lt i (g.llen (t.r_Scan l))=true:=by subst hg;simp[G.real,mC ht];omega
theorem kA {l:List Scan} {i:Int} {k:Nat} (hi:i=((k:Nat):Int)) (hc:¬k<l.length):g.lt i (g.llen (t.r_Scan l))=false:=by subst hg;simp[G.real,mC ht];omega
theorem qv {l:List Scan} {i:Int} {k:Nat} (hi:i=((k:Nat):Int)) (hc:k<l.length) (hm:(t.r_Scan l).length≤maxLen):g.wrap .i64 (g.add i 1)=((k+1:Nat):Int):=by
 subst hg;rw[mC ht] at hm;unfold maxLen at hm;simp only[G.real];rw[i64_in]<;>omega
@[simp] theorem zr (l:List Scan):G.real.llen (TE.real.r_Scan l)=(l.length:Int):=by rw[jP];simp[G.real]
@[simp] theorem cM (l:List Scan):G.real.dlen (TE.real.d_Scan l)=l.length:=by rw[f7];simp[G.real]
@[simp] theorem xh (l:List Scan):(TE.real.r_Scan l).length=l.length:=by rw[jP];simp
theorem bE (m:List Scan) (lo n:Nat):g.dsub (t.d_Scan m) lo n=t.d_Scan (List.take n (List.drop lo m)):=by subst hg;subst ht;rw[f7,f7];simp[G.real]
theorem eY {m:List Scan} {lo n:Nat} (h:lo+n≤m.length):lo+n≤(t.d_Scan m).length∧g7 (((t.d_Scan m).drop lo).take n)=true:=by
 subst ht;refine⟨by rw[iP rfl];exact h,?_⟩
 rw[f7,←List.map_drop,←List.map_take];exact ng vf _
theorem tx {m:List Scan} {n:Nat} (h:n=(t.d_Scan m).length):0+n≤(t.d_Scan m).length∧g7 (((t.d_Scan m).drop 0).take n)=true:=by
 subst h;subst ht;refine⟨by omega,?_⟩
 simp only[List.drop_zero,List.take_length,f7];exact ng vf m
end
theorem FR (x:ByteArray):lY (S.ds TE.real x)=true:=rfl
theorem zp (l:List ByteArray):TE.real.r_S l=l.map (S.rs TE.real):=rfl
theorem nR (l:List ByteArray):TE.real.d_S l=l.map (S.ds TE.real):=rfl
theorem FJ (x:ByteArray):fg (S.ds TE.real x)=S.rs TE.real x:=by simp[S.ds,S.rs,fg,lK]
theorem DT (l:List ByteArray):toRdss (TE.real.d_S l)=TE.real.r_S l:=by rw[nR,zp];exact jy FJ l
section
variable {g:G} {t:TE} (hg:g=G.real) (ht:t=TE.real)
include ht
theorem uu (l:List ByteArray):(t.r_S l).length=l.length:=by subst ht;rw[zp];simp
theorem lF (l:List ByteArray):(t.d_S l).length=l.length:=by subst ht;rw[nR];simp
theorem CU:t.d_S []=[]:=by subst ht;rfl
theorem Eu {l l2:List ByteArray} {n:Nat} (h:n=(t.d_S l).length) (h2:l2.length=l.length):n=(t.d_S l2).length:=by rw[h,lF ht,lF ht,h2]
theorem en {l:List ByteArray} {n:Nat} (h:n=(t.d_S l).length):0+n≤(t.d_S l).length:=by omega
include hg
theorem ut {l:List ByteArray} {i:Nat} {x:ByteArray} (h:l[i]?=some x):(t.r_S l)[i]?=some (S.rs t x):=by subst ht;rw[zp];exact fZ _ h
theorem iY {l:List ByteArray} {i:Nat} {x:ByteArray} (h:l[i]?=some x):(t.d_S l)[i]?=some (S.ds t x):=by subst ht;rw[nR];exact fZ _ h
theorem kD {l:List ByteArray} {i:Int} {k:Nat} {x:ByteArray} (hi:i=((k:Nat):Int)) (h:l[k]?=some x):(t.r_S l)[g.nat i]?=some (S.rs t x):=by
 subst hg;subst hi;exact ut rfl ht (by simpa [G.real] using h)
theorem gl (l:List ByteArray):List.map (S.ds t) l=t.d_S l:=by subst ht;rfl
theorem ez (l:List ByteArray):l.length=g.dlen (t.d_S l):=by subst hg;subst ht;rw[nR];simp[G.real]
theorem al (l:List ByteArray):g.dlen (t.d_S l)=(t.d_S l).length:=by subst hg;rfl
theorem p6:g.dlen (t.d_S [])=0:=by subst hg;subst ht;rfl
theorem gK {l m:List ByteArray} {n:Nat} {news:List (List D)} (h1:n=(t.d_S l).length) (h2:news=t.d_S m):g.dapp (t.d_S l) n news=t.d_S (l++m):=by
 subst h1;subst h2;subst hg;subst ht;simp only[nR,G.real,List.map_append,List.take_length]
theorem eF {l m:List ByteArray} {n:Nat} {news:List (List D)} (h1:n=(t.d_S l).length) (h2:news=t.d_S m):g.nadd n (g.dlen news)=g.dlen (t.d_S (l++m)):=by
 subst h1;subst h2;subst hg;subst ht;simp only[nR,G.real,List.map_append,List.length_append]
theorem cE {l m:List ByteArray} {n b:Nat} {news:List (List D)} (h1:n=(t.d_S l).length) (h2:news=t.d_S m) (h:(l.length+m.length)*b≤70368744177664) (hb:0<b:=by decide):0=0∧n≤(t.d_S l).length∧n+news.length≤maxLen∧(n+news.length)*b≤140737488355328:=
 nO h1 (lF ht l) (h2▸lF ht m) hb h
theorem DL (l:List ByteArray):g.rda (t.d_S l)=t.r_S l:=by subst hg;subst ht;exact DT l
theorem xm (l:List ByteArray):g.rda (List.map (S.ds t) l)=t.r_S l:=by rw[gl hg ht];exact DL hg ht l
theorem rd_S (l:List ByteArray) (lo n:Nat):g.rd (t.d_S l) lo n=t.r_S (List.take n (List.drop lo l)):=by
 subst hg;subst ht
 rw[←DT,nR,nR]
 simp[G.real]
theorem gi {l:List ByteArray} {n:Nat} (h:n=(t.d_S l).length):g.rd (t.d_S l) 0 n=t.r_S l:=by rw[rd_S hg ht,h,lF ht];simp
theorem iu {l:List ByteArray} {i:Int} {k:Nat} (hi:i=((k:Nat):Int)) (hc:k<l.length):g.lt i (g.llen (t.r_S l))=true:=by subst hg;simp[G.real,uu ht];omega
theorem gQ {l:List ByteArray} {i:Int} {k:Nat} (hi:i=((k:Nat):Int)) (hc:¬k<l.length):g.lt i (g.llen (t.r_S l))=false:=by subst hg;simp[G.real,uu ht];omega
theorem nq {l:List ByteArray} {i:Int} {k:Nat} (hi:i=((k:Nat):Int)) (hc:k<l.length) (hm:(t.r_S l).length≤maxLen):g.wrap .i64 (g.add i 1)=((k+1:Nat):Int):=by
 subst hg;rw[uu ht] at hm;unfold maxLen at hm;simp only[G.real];rw[i64_in]<;>omega
@[simp] theorem llen_S (l:List ByteArray):G.real.llen (TE.real.r_S l)=(l.length:Int):=by rw[zp];simp[G.real]
@[simp] theorem hJ (l:List ByteArray):G.real.dlen (TE.real.d_S l)=l.length:=by rw[nR];simp[G.real]
@[simp] theorem rlenx_S (l:List ByteArray):(TE.real.r_S l).length=l.length:=by rw[zp];simp
theorem cS (m:List ByteArray) (lo n:Nat):g.dsub (t.d_S m) lo n=t.d_S (List.take n (List.drop lo m)):=by subst hg;subst ht;rw[nR,nR];simp[G.real]
theorem fI {m:List ByteArray} {lo n:Nat} (h:lo+n≤m.length):lo+n≤(t.d_S m).length∧g7 (((t.d_S m).drop lo).take n)=true:=by
 subst ht;refine⟨by rw[lF rfl];exact h,?_⟩
 rw[nR,←List.map_drop,←List.map_take];exact ng FR _
theorem EH (m:List ByteArray):g.up (t.r_S m)=t.d_S m:=by subst hg;subst ht;rw[zp,nR];simp[G.real,S.rs,S.ds]
end
theorem Cw (x:Trip):lY (Trip.ds TE.real x)=true:=rfl
theorem nE (l:List Trip):TE.real.r_Trip l=l.map (Trip.rs TE.real):=rfl
theorem gG (l:List Trip):TE.real.d_Trip l=l.map (Trip.ds TE.real):=rfl
theorem A8 (x:Trip):fg (Trip.ds TE.real x)=Trip.rs TE.real x:=by simp[Trip.ds,Trip.rs,fg,lK]
theorem vN (l:List Trip):toRdss (TE.real.d_Trip l)=TE.real.r_Trip l:=by rw[gG,nE];exact jy A8 l
section
variable {g:G} {t:TE} (hg:g=G.real) (ht:t=TE.real)
include ht
theorem mr (l:List Trip):(t.r_Trip l).length=l.length:=by subst ht;rw[nE];simp
theorem mw (l:List Trip):(t.d_Trip l).length=l.length:=by subst ht;rw[gG];simp
theorem xo:t.d_Trip []=[]:=by subst ht;rfl
theorem zj {l:List Trip} {n:Nat} (h:n=(t.d_Trip l).length):0+n≤(t.d_Trip l).length:=by omega
include hg
theorem xq {l:List Trip} {i:Nat} {x:Trip} (h:l[i]?=some x):(t.r_Trip l)[i]?=some (Trip.rs t x):=by subst ht;rw[nE];exact fZ _ h
theorem jT {l:List Trip} {i:Nat} {x:Trip} (h:l[i]?=some x):(t.d_Trip l)[i]?=some (Trip.ds t x):=by subst ht;rw[gG];exact fZ _ h
theorem kU {l:List Trip} {i:Int} {k:Nat} {x:Trip} (hi:i=((k:Nat):Int)) (h:l[k]?=some x):(t.r_Trip l)[g.nat i]?=some (Trip.rs t x):=by
 subst hg;subst hi;exact xq rfl ht (by simpa [G.real] using h)
theorem nK (l:List Trip):List.map (Trip.ds t) l=t.d_Trip l:=by subst ht;rfl
theorem lB (l:List Trip):l.length=g.dlen (t.d_Trip l):=by subst hg;subst ht;rw[gG];simp[G.real]
theorem ci (l:List Trip):g.dlen (t.d_Trip l)=(t.d_Trip l).length:=by subst hg;rfl
theorem lX:g.dlen (t.d_Trip [])=0:=by subst hg;subst ht;rfl
theorem vM {l m:List Trip} {n:Nat} {news:List (List D)} (h1:n=(t.d_Trip l).length) (h2:news=t.d_Trip m):g.dapp (t.d_Trip l) n news=t.d_Trip (l++m):=by
 subst h1;subst h2;subst hg;subst ht;simp only[gG,G.real,List.map_append,List.take_length]
theorem sW {l m:List Trip} {n:Nat} {news:List (List D)} (h1:n=(t.d_Trip l).length) (h2:news=t.d_Trip m):g.nadd n (g.dlen news)=g.dlen (t.d_Trip (l++m)):=by
 subst h1;subst h2;subst hg;subst ht;simp only[gG,G.real,List.map_append,List.length_append]
theorem oY {l m:List Trip} {n b:Nat} {news:List (List D)} (h1:n=(t.d_Trip l).length) (h2:news=t.d_Trip m) (h:(l.length+m.length)*b≤70368744177664) (hb:0<b:=by decide):0=0∧n≤(t.d_Trip l).length∧n+news.length≤maxLen∧(n+news.length)*b≤140737488355328:=
 nO h1 (mw ht l) (h2▸mw ht m) hb h
theorem mQ {m:List Trip} {n:Nat} (h:n=(t.d_Trip m).length):g.dsub (t.d_Trip m) 0 n=t.d_Trip m:=by subst h;subst hg;simp[G.real]
theorem BR (l:List Trip):g.rda (t.d_Trip l)=t.r_Trip l:=by subst hg;subst ht;exact vN l
theorem C4 (l:List Trip) (lo n:Nat):g.rd (t.d_Trip l) lo n=t.r_Trip (List.take n (List.drop lo l)):=by
 subst hg;subst ht
 rw[←vN,gG,gG]
 simp[G.real]
theorem B4 {l:List Trip} {n:Nat} (h:n=(t.d_Trip l).length):g.rd (t.d_Trip l) 0 n=t.r_Trip l:=by rw[C4 hg ht,h,mw ht];simp
theorem lS {l:List Trip} {i:Int} {k:Nat} (hi:i=((k:Nat):Int)) (hc:k<l.length):g.lt i (g.llen (t.r_Trip l))=true:=by subst hg;simp[G.real,mr ht];omega
theorem kF {l:List Trip} {i:Int} {k:Nat} (hi:i=((k:Nat):Int)) (hc:¬k<l.length):g.lt i (g.llen (t.r_Trip l))=false:=by subst hg;simp[G.real,mr ht];omega
theorem rF {l:List Trip} {i:Int} {k:Nat} (hi:i=((k:Nat):Int)) (hc:k<l.length) (hm:(t.r_Trip l).length≤maxLen):g.wrap .i64 (g.add i 1)=((k+1:Nat):Int):=by
 subst hg;rw[mr ht] at hm;unfold maxLen at hm;simp only[G.real];rw[i64_in]<;>omega
@[simp] theorem EW (l:List Trip):G.real.llen (TE.real.r_Trip l)=(l.length:Int):=by rw[nE];simp[G.real]
@[simp] theorem pW (l:List Trip):G.real.dlen (TE.real.d_Trip l)=l.length:=by rw[gG];simp[G.real]
@[simp] theorem Ef (l:List Trip):(TE.real.r_Trip l).length=l.length:=by rw[nE];simp
theorem tC {m:List Trip} {n:Nat} (h:n=(t.d_Trip m).length):0+n≤(t.d_Trip m).length∧g7 (((t.d_Trip m).drop 0).take n)=true:=by
 subst h;subst ht;refine⟨by omega,?_⟩
 simp only[List.drop_zero,List.take_length,gG];exact ng Cw m
end
end Go.Vs
