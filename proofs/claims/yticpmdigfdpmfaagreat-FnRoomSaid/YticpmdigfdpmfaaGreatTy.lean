/- Part of the proofs of this seat's laws: Ty. No condition. -/
import Derived.Test.YticpmdigfdpmfaaGreatVf
set_option linter.unusedVariables false
set_option linter.unusedSimpArgs false
set_option linter.unusedSectionVars false
namespace Go.Vs
open Go.IntWalk
set_option linter.unusedVariables false
set_option linter.unusedSimpArgs false
set_option linter.unusedSectionVars false
structure Trip where
 Leg:Int
 Day:Int
structure Scan where
 Thing:Int
 At:Int
 Kind:Int
 Place:ByteArray
 Trip:Trip
structure Leg where
 From:ByteArray
 To:ByteArray
 Start:Int
 Takes:Int
 Days:Int
 Room:Int
structure Network where
 Legs:List Leg
 Off:List Int
 Change:Int
structure Booking where
 Thing:Int
 Trip:Trip
 Weight:Int
structure Belief where
 Places:List ByteArray
 Rides:List Trip
structure Cur where
 b:List Int
 i:Int
 h:Int
structure Spot where
 Place:ByteArray
 At:Int
structure Know where
 n:Network
 at_:Int
 known:Bool
 place:ByteArray
 ride:Trip
 rides:Bool
 free:Bool
 from_:Spot
 to:Spot
 more:Bool
def rU8 (l:List Int):List (List R):=l.map fun x=>[.v (.int .u8 x)]
def dU8 (l:List Int):List (List D):=l.map fun x=>[.r (.v (.int .u8 x))]
def Ff (l:List Scan):List (List R):=l.map fun x=>[.v (.int .i64 x.Thing),.v (.int .i64 x.At),.v (.int .i64 x.Kind),.v (.string x.Place),.v (.int .i64 x.Trip.Leg),.v (.int .i64 x.Trip.Day)]
def D7 (l:List Scan):List (List D):=l.map fun x=>[.r (.v (.int .i64 x.Thing)),.r (.v (.int .i64 x.At)),.r (.v (.int .i64 x.Kind)),.r (.v (.string x.Place)),.r (.v (.int .i64 x.Trip.Leg)),.r (.v (.int .i64 x.Trip.Day))]
def C5 (l:List Leg):List (List R):=l.map fun x=>[.v (.string x.From),.v (.string x.To),.v (.int .i64 x.Start),.v (.int .i64 x.Takes),.v (.int .i64 x.Days),.v (.int .i64 x.Room)]
def dLeg (l:List Leg):List (List D):=l.map fun x=>[.r (.v (.string x.From)),.r (.v (.string x.To)),.r (.v (.int .i64 x.Start)),.r (.v (.int .i64 x.Takes)),.r (.v (.int .i64 x.Days)),.r (.v (.int .i64 x.Room))]
def B7 (l:List Int):List (List R):=l.map fun x=>[.v (.int .i64 x)]
def Fm (l:List Int):List (List D):=l.map fun x=>[.r (.v (.int .i64 x))]
def CR (l:List Trip):List (List R):=l.map fun x=>[.v (.int .i64 x.Leg),.v (.int .i64 x.Day)]
def FG (l:List Trip):List (List D):=l.map fun x=>[.r (.v (.int .i64 x.Leg)),.r (.v (.int .i64 x.Day))]
def vt (l:List Booking):List (List R):=l.map fun x=>[.v (.int .i64 x.Thing),.v (.int .i64 x.Trip.Leg),.v (.int .i64 x.Trip.Day),.v (.int .i64 x.Weight)]
def BB (l:List Booking):List (List D):=l.map fun x=>[.r (.v (.int .i64 x.Thing)),.r (.v (.int .i64 x.Trip.Leg)),.r (.v (.int .i64 x.Trip.Day)),.r (.v (.int .i64 x.Weight))]
def rS (l:List ByteArray):List (List R):=l.map fun x=>[.v (.string x)]
def dS (l:List ByteArray):List (List D):=l.map fun x=>[.r (.v (.string x))]
def FB (l:List (List Int)):List (List R):=l.map fun x=>[.s 1 (B7 x)]
def EH (l:List (List Int)):List (List D):=l.map fun x=>[.o 1 (Fm x)]
inductive Fd where
 |I_nextOf_1 (a0:Network)
 |I_freeOf_1 (a0:Network) (a1:List Trip) (a2:List Booking) (a3:Int)
def rFd:Fd→R
 |.I_nextOf_1 a0=>.fn 111 [[.s 6 (C5 a0.Legs),.s 1 (B7 a0.Off),.v (.int .i64 a0.Change)]]
 |.I_freeOf_1 a0 a1 a2 a3=>.fn 126 [[.s 6 (C5 a0.Legs),.s 1 (B7 a0.Off),.v (.int .i64 a0.Change)],[.s 2 (CR a1)],[.s 4 (vt a2)],[.v (.int .i64 a3)]]
structure TE where
 r_U8:List Int→List (List R)
 d_U8:List Int→List (List D)
 r_Scan:List Scan→List (List R)
 d_Scan:List Scan→List (List D)
 r_Leg:List Leg→List (List R)
 d_Leg:List Leg→List (List D)
 r_I64:List Int→List (List R)
 d_I64:List Int→List (List D)
 r_Trip:List Trip→List (List R)
 d_Trip:List Trip→List (List D)
 r_Booking:List Booking→List (List R)
 d_Booking:List Booking→List (List D)
 r_S:List ByteArray→List (List R)
 d_S:List ByteArray→List (List D)
 r_LI64:List (List Int)→List (List R)
 d_LI64:List (List Int)→List (List D)
 r_Fd:Fd→R
def TE.real:TE:=⟨rU8,dU8,Ff,D7,C5,dLeg,B7,Fm,CR,FG,vt,BB,rS,dS,FB,EH,rFd⟩
theorem kD {t:TE} (ht:t=TE.real) (a0:Network):R.fn 111 [[.s 6 (t.r_Leg a0.Legs),.s 1 (t.r_I64 a0.Off),.v (.int .i64 a0.Change)]]=t.r_Fd (.I_nextOf_1 a0):=by subst ht;rfl
theorem kp {t:TE} (ht:t=TE.real) (a0:Network) (a1:List Trip) (a2:List Booking) (a3:Int):R.fn 126 [[.s 6 (t.r_Leg a0.Legs),.s 1 (t.r_I64 a0.Off),.v (.int .i64 a0.Change)],[.s 2 (t.r_Trip a1)],[.s 4 (t.r_Booking a2)],[.v (.int .i64 a3)]]=t.r_Fd (.I_freeOf_1 a0 a1 a2 a3):=by subst ht;rfl
def Trip.rs (t:TE) (x:Trip):List R:=[.v (.int .i64 x.Leg),.v (.int .i64 x.Day)]
def Trip.ds (t:TE) (x:Trip):List D:=[.r (.v (.int .i64 x.Leg)),.r (.v (.int .i64 x.Day))]
def Scan.rs (t:TE) (x:Scan):List R:=[.v (.int .i64 x.Thing),.v (.int .i64 x.At),.v (.int .i64 x.Kind),.v (.string x.Place),.v (.int .i64 x.Trip.Leg),.v (.int .i64 x.Trip.Day)]
def Scan.ds (t:TE) (x:Scan):List D:=[.r (.v (.int .i64 x.Thing)),.r (.v (.int .i64 x.At)),.r (.v (.int .i64 x.Kind)),.r (.v (.string x.Place)),.r (.v (.int .i64 x.Trip.Leg)),.r (.v (.int .i64 x.Trip.Day))]
def Leg.rs (t:TE) (x:Leg):List R:=[.v (.string x.From),.v (.string x.To),.v (.int .i64 x.Start),.v (.int .i64 x.Takes),.v (.int .i64 x.Days),.v (.int .i64 x.Room)]
def Leg.ds (t:TE) (x:Leg):List D:=[.r (.v (.string x.From)),.r (.v (.string x.To)),.r (.v (.int .i64 x.Start)),.r (.v (.int .i64 x.Takes)),.r (.v (.int .i64 x.Days)),.r (.v (.int .i64 x.Room))]
def Network.rs (t:TE) (x:Network):List R:=[.s 6 (t.r_Leg x.Legs),.s 1 (t.r_I64 x.Off),.v (.int .i64 x.Change)]
def Network.ds (t:TE) (x:Network):List D:=[.o 6 (t.d_Leg x.Legs),.o 1 (t.d_I64 x.Off),.r (.v (.int .i64 x.Change))]
def Booking.rs (t:TE) (x:Booking):List R:=[.v (.int .i64 x.Thing),.v (.int .i64 x.Trip.Leg),.v (.int .i64 x.Trip.Day),.v (.int .i64 x.Weight)]
def Booking.ds (t:TE) (x:Booking):List D:=[.r (.v (.int .i64 x.Thing)),.r (.v (.int .i64 x.Trip.Leg)),.r (.v (.int .i64 x.Trip.Day)),.r (.v (.int .i64 x.Weight))]
def Belief.rs (t:TE) (x:Belief):List R:=[.s 1 (t.r_S x.Places),.s 2 (t.r_Trip x.Rides)]
def Belief.ds (t:TE) (x:Belief):List D:=[.o 1 (t.d_S x.Places),.o 2 (t.d_Trip x.Rides)]
def Cur.rs (t:TE) (x:Cur):List R:=[.s 1 (t.r_U8 x.b),.v (.int .i64 x.i),.v (.int .i64 x.h)]
def Cur.ds (t:TE) (x:Cur):List D:=[.r (.s 1 (t.r_U8 x.b)),.r (.v (.int .i64 x.i)),.r (.v (.int .i64 x.h))]
def Spot.rs (t:TE) (x:Spot):List R:=[.v (.string x.Place),.v (.int .i64 x.At)]
def Spot.ds (t:TE) (x:Spot):List D:=[.r (.v (.string x.Place)),.r (.v (.int .i64 x.At))]
def Know.rs (t:TE) (x:Know):List R:=[.s 6 (t.r_Leg x.n.Legs),.s 1 (t.r_I64 x.n.Off),.v (.int .i64 x.n.Change),.v (.int .i64 x.at_),.v (.bool x.known),.v (.string x.place),.v (.int .i64 x.ride.Leg),.v (.int .i64 x.ride.Day),.v (.bool x.rides),.v (.bool x.free),.v (.string x.from_.Place),.v (.int .i64 x.from_.At),.v (.string x.to.Place),.v (.int .i64 x.to.At),.v (.bool x.more)]
def Know.ds (t:TE) (x:Know):List D:=[.r (.s 6 (t.r_Leg x.n.Legs)),.r (.s 1 (t.r_I64 x.n.Off)),.r (.v (.int .i64 x.n.Change)),.r (.v (.int .i64 x.at_)),.r (.v (.bool x.known)),.r (.v (.string x.place)),.r (.v (.int .i64 x.ride.Leg)),.r (.v (.int .i64 x.ride.Day)),.r (.v (.bool x.rides)),.r (.v (.bool x.free)),.r (.v (.string x.from_.Place)),.r (.v (.int .i64 x.from_.At)),.r (.v (.string x.to.Place)),.r (.v (.int .i64 x.to.At)),.r (.v (.bool x.more))]
def U8.rs (t:TE) (x:Int):List R:=[.v (.int .u8 x)]
def U8.ds (t:TE) (x:Int):List D:=[.r (.v (.int .u8 x))]
def I64.rs (t:TE) (x:Int):List R:=[.v (.int .i64 x)]
def I64.ds (t:TE) (x:Int):List D:=[.r (.v (.int .i64 x))]
def S.rs (t:TE) (x:ByteArray):List R:=[.v (.string x)]
def S.ds (t:TE) (x:ByteArray):List D:=[.r (.v (.string x))]
def LI64.rs (t:TE) (x:List Int):List R:=[.s 1 (t.r_I64 x)]
def LI64.ds (t:TE) (x:List Int):List D:=[.o 1 (t.d_I64 x)]
theorem e9 {α β:Type} (f:α→β) {l:List α} {i:Nat} {x:α} (h:l[i]?=some x):(l.map f)[i]?=some (f x):=by rw[List.getElem?_map,h];rfl
theorem jx {α:Type} {f:α→List D} {q:α→List R} (h:∀x,eS (f x)=q x) (l:List α):toRdss (l.map f)=l.map q:=by
 induction l with
 |nil=>rfl
 |cons x l ih=>simp only[List.map_cons,toRdss,h,ih]
theorem qa {α:Type} {f:α→List D} (h:∀x,cr (f x)=true) (l:List α):cz (l.map f)=true:=by
 induction l with
 |nil=>rfl
 |cons x l ih=>simp only[List.map_cons,cz,h,ih,Bool.and_self]
theorem sQ {α:Type} {f:α→List D} (h:∀x,mz (f x)=true) (l:List α):iO (l.map f)=true:=by
 induction l with
 |nil=>rfl
 |cons x l ih=>simp only[List.map_cons,iO,h,ih,Bool.and_self]
theorem xW (l:List Int):TE.real.r_U8 l=l.map (U8.rs TE.real):=rfl
theorem Ek (l:List Int):TE.real.d_U8 l=l.map (U8.ds TE.real):=rfl
section
variable {g:G} {t:TE} (hg:g=G.real) (ht:t=TE.real)
include ht
theorem qF (l:List Int):(t.r_U8 l).length=l.length:=by subst ht;rw[xW];simp
theorem AX:t.d_U8 []=[]:=by subst ht;rfl
include hg
theorem ux {l:List Int} {i:Nat} {x:Int} (h:l[i]?=some x):(t.r_U8 l)[i]?=some (U8.rs t x):=by subst ht;rw[xW];exact e9 _ h
theorem yw {l:List Int} {i:Int} {k:Nat} {x:Int} (hi:i=((k:Nat):Int)) (h:l[k]?=some x):(t.r_U8 l)[g.nat i]?=some (U8.rs t x):=by
 subst hg;subst hi;exact ux rfl ht (by simpa [G.real] using h)
theorem vn {l:List Int} {i:Int} {k:Nat} (hi:i=((k:Nat):Int)) (hc:k<l.length):g.lt i (g.llen (t.r_U8 l))=true:=by subst hg;simp[G.real,qF ht];omega
theorem sN {l:List Int} {i:Int} {k:Nat} (hi:i=((k:Nat):Int)) (hc:¬k<l.length):g.lt i (g.llen (t.r_U8 l))=false:=by subst hg;simp[G.real,qF ht];omega
theorem Af {l:List Int} {i:Int} {k:Nat} (hi:i=((k:Nat):Int)) (hc:k<l.length) (hm:(t.r_U8 l).length≤maxLen):g.wrap .i64 (g.add i 1)=((k+1:Nat):Int):=by
 subst hg;rw[qF ht] at hm;unfold maxLen at hm;simp only[G.real];rw[i64_in]<;>omega
@[simp] theorem BT (l:List Int):G.real.llen (TE.real.r_U8 l)=(l.length:Int):=by rw[xW];simp[G.real]
@[simp] theorem D8 (l:List Int):G.real.dlen (TE.real.d_U8 l)=l.length:=by rw[Ek];simp[G.real]
@[simp] theorem EU (l:List Int):(TE.real.r_U8 l).length=l.length:=by rw[xW];simp
end
theorem xu (l:List Scan):TE.real.r_Scan l=l.map (Scan.rs TE.real):=rfl
theorem BM (l:List Scan):TE.real.d_Scan l=l.map (Scan.ds TE.real):=rfl
section
variable {g:G} {t:TE} (hg:g=G.real) (ht:t=TE.real)
include ht
theorem wk:t.d_Scan []=[]:=by subst ht;rfl
include hg
@[simp] theorem DZ (l:List Scan):G.real.llen (TE.real.r_Scan l)=(l.length:Int):=by rw[xu];simp[G.real]
@[simp] theorem Dv (l:List Scan):G.real.dlen (TE.real.d_Scan l)=l.length:=by rw[BM];simp[G.real]
@[simp] theorem C6 (l:List Scan):(TE.real.r_Scan l).length=l.length:=by rw[xu];simp
end
theorem qV (l:List Leg):TE.real.r_Leg l=l.map (Leg.rs TE.real):=rfl
theorem mj (l:List Leg):TE.real.d_Leg l=l.map (Leg.ds TE.real):=rfl
theorem Cx (x:Leg):eS (Leg.ds TE.real x)=Leg.rs TE.real x:=by simp[Leg.ds,Leg.rs,eS,lu]
theorem Cz (l:List Leg):toRdss (TE.real.d_Leg l)=TE.real.r_Leg l:=by rw[mj,qV];exact jx Cx l
section
variable {g:G} {t:TE} (hg:g=G.real) (ht:t=TE.real)
include ht
theorem nS (l:List Leg):(t.r_Leg l).length=l.length:=by subst ht;rw[qV];simp
theorem rH (l:List Leg):(t.d_Leg l).length=l.length:=by subst ht;rw[mj];simp
theorem sr:t.d_Leg []=[]:=by subst ht;rfl
include hg
theorem bg {l:List Leg} {i:Nat} {x:Leg} (h:l[i]?=some x):(t.r_Leg l)[i]?=some (Leg.rs t x):=by subst ht;rw[qV];exact e9 _ h
theorem sa {l:List Leg} {i:Nat} {x:Leg} (h:l[i]?=some x):(t.d_Leg l)[i]?=some (Leg.ds t x):=by subst ht;rw[mj];exact e9 _ h
theorem dU {l:List Leg} {i:Int} {k:Nat} {x:Leg} (hi:i=((k:Nat):Int)) (h:l[k]?=some x):(t.r_Leg l)[g.nat i]?=some (Leg.rs t x):=by
 subst hg;subst hi;exact bg rfl ht (by simpa [G.real] using h)
theorem xd (l:List Leg):List.map (Leg.ds t) l=t.d_Leg l:=by subst ht;rfl
theorem vy (l:List Leg):l.length=g.dlen (t.d_Leg l):=by subst hg;subst ht;rw[mj];simp[G.real]
theorem eW (l:List Leg):g.dlen (t.d_Leg l)=(t.d_Leg l).length:=by subst hg;rfl
theorem mW:g.dlen (t.d_Leg [])=0:=by subst hg;subst ht;rfl
theorem xw {l m:List Leg} {n:Nat} {news:List (List D)} (h1:n=(t.d_Leg l).length) (h2:news=t.d_Leg m):g.dapp (t.d_Leg l) n news=t.d_Leg (l++m):=by
 subst h1;subst h2;subst hg;subst ht;simp only[mj,G.real,List.map_append,List.take_length]
theorem vq {l m:List Leg} {n:Nat} {news:List (List D)} (h1:n=(t.d_Leg l).length) (h2:news=t.d_Leg m):g.nadd n (g.dlen news)=g.dlen (t.d_Leg (l++m)):=by
 subst h1;subst h2;subst hg;subst ht;simp only[mj,G.real,List.map_append,List.length_append]
theorem qO {l m:List Leg} {n b:Nat} {news:List (List D)} (h1:n=(t.d_Leg l).length) (h2:news=t.d_Leg m) (h:(l.length+m.length)*b≤70368744177664) (hb:0<b:=by decide):0=0∧n≤(t.d_Leg l).length∧n+news.length≤maxLen∧(n+news.length)*b≤140737488355328:=
 ln h1 (rH ht l) (h2▸rH ht m) hb h
theorem xY (l:List Leg):g.rda (t.d_Leg l)=t.r_Leg l:=by subst hg;subst ht;exact Cz l
theorem dW {l:List Leg} {i:Int} {k:Nat} (hi:i=((k:Nat):Int)) (hc:k<l.length):g.lt i (g.llen (t.r_Leg l))=true:=by subst hg;simp[G.real,nS ht];omega
theorem dn {l:List Leg} {i:Int} {k:Nat} (hi:i=((k:Nat):Int)) (hc:¬k<l.length):g.lt i (g.llen (t.r_Leg l))=false:=by subst hg;simp[G.real,nS ht];omega
theorem gk {l:List Leg} {i:Int} {k:Nat} (hi:i=((k:Nat):Int)) (hc:k<l.length) (hm:(t.r_Leg l).length≤maxLen):g.wrap .i64 (g.add i 1)=((k+1:Nat):Int):=by
 subst hg;rw[nS ht] at hm;unfold maxLen at hm;simp only[G.real];rw[i64_in]<;>omega
@[simp] theorem qi (l:List Leg):G.real.llen (TE.real.r_Leg l)=(l.length:Int):=by rw[qV];simp[G.real]
@[simp] theorem rT (l:List Leg):G.real.dlen (TE.real.d_Leg l)=l.length:=by rw[mj];simp[G.real]
@[simp] theorem D0 (l:List Leg):(TE.real.r_Leg l).length=l.length:=by rw[qV];simp
end
theorem Cc (x:Int):mz (I64.ds TE.real x)=true:=rfl
theorem nY (l:List Int):TE.real.r_I64 l=l.map (I64.rs TE.real):=rfl
theorem eT (l:List Int):TE.real.d_I64 l=l.map (I64.ds TE.real):=rfl
theorem BZ (x:Int):eS (I64.ds TE.real x)=I64.rs TE.real x:=by simp[I64.ds,I64.rs,eS,lu]
theorem BP (x:Int):cr (I64.ds TE.real x)=true:=by simp[I64.ds,cr,fq]
theorem xT (l:List Int):toRdss (TE.real.d_I64 l)=TE.real.r_I64 l:=by rw[eT,nY];exact jx BZ l
theorem BK (l:List Int):cz (TE.real.d_I64 l)=true:=by rw[eT];exact qa BP l
section
variable {g:G} {t:TE} (hg:g=G.real) (ht:t=TE.real)
include ht
theorem nD (l:List Int):(t.r_I64 l).length=l.length:=by subst ht;rw[nY];simp
theorem nP (l:List Int):(t.d_I64 l).length=l.length:=by subst ht;rw[eT];simp
theorem lf:t.d_I64 []=[]:=by subst ht;rfl
theorem iR (l:List Int) (i:Nat) (x:Int):(t.d_I64 (l.set i x)).length=(t.d_I64 l).length:=by subst ht;rw[eT,eT];simp
theorem yT (l:List Int):cz (t.d_I64 l)=true:=by subst ht;exact BK l
theorem mN {l:List Int} {n:Nat} (h:n=(t.d_I64 l).length):0+n≤(t.d_I64 l).length:=by omega
include hg
theorem d7 {l:List Int} {i:Nat} {x:Int} (h:l[i]?=some x):(t.r_I64 l)[i]?=some (I64.rs t x):=by subst ht;rw[nY];exact e9 _ h
theorem bn {l:List Int} {i:Nat} {x:Int} (h:l[i]?=some x):(t.d_I64 l)[i]?=some (I64.ds t x):=by subst ht;rw[eT];exact e9 _ h
theorem gg {l:List Int} {i:Int} {k:Nat} {x:Int} (hi:i=((k:Nat):Int)) (h:l[k]?=some x):(t.r_I64 l)[g.nat i]?=some (I64.rs t x):=by
 subst hg;subst hi;exact d7 rfl ht (by simpa [G.real] using h)
theorem dR (l:List Int):List.map (I64.ds t) l=t.d_I64 l:=by subst ht;rfl
theorem dj (l:List Int):l.length=g.dlen (t.d_I64 l):=by subst hg;subst ht;rw[eT];simp[G.real]
theorem am (l:List Int):g.dlen (t.d_I64 l)=(t.d_I64 l).length:=by subst hg;rfl
theorem kS (l:List Int) (i:Nat) (x:Int):g.dset (t.d_I64 l) i (I64.ds t x)=t.d_I64 (l.set i x):=by subst hg;subst ht;rw[eT,eT];simp[G.real,List.map_set]
theorem na {l m:List Int} {n:Nat} {news:List (List D)} (h1:n=(t.d_I64 l).length) (h2:news=t.d_I64 m):g.dapp (t.d_I64 l) n news=t.d_I64 (l++m):=by
 subst h1;subst h2;subst hg;subst ht;simp only[eT,G.real,List.map_append,List.take_length]
theorem kE {l m:List Int} {n:Nat} {news:List (List D)} (h1:n=(t.d_I64 l).length) (h2:news=t.d_I64 m):g.nadd n (g.dlen news)=g.dlen (t.d_I64 (l++m)):=by
 subst h1;subst h2;subst hg;subst ht;simp only[eT,G.real,List.map_append,List.length_append]
theorem ig {l m:List Int} {n b:Nat} {news:List (List D)} (h1:n=(t.d_I64 l).length) (h2:news=t.d_I64 m) (h:(l.length+m.length)*b≤70368744177664) (hb:0<b:=by decide):0=0∧n≤(t.d_I64 l).length∧n+news.length≤maxLen∧(n+news.length)*b≤140737488355328:=
 ln h1 (nP ht l) (h2▸nP ht m) hb h
theorem nF {m:List Int} {n:Nat} (h:n=(t.d_I64 m).length):g.dsub (t.d_I64 m) 0 n=t.d_I64 m:=by subst h;subst hg;simp[G.real]
theorem sJ (l:List Int):g.rda (t.d_I64 l)=t.r_I64 l:=by subst hg;subst ht;exact xT l
theorem gC (l:List Int):g.rda (List.map (I64.ds t) l)=t.r_I64 l:=by rw[dR hg ht];exact sJ hg ht l
theorem Ds (l:List Int) (lo n:Nat):g.rd (t.d_I64 l) lo n=t.r_I64 (List.take n (List.drop lo l)):=by
 subst hg;subst ht
 rw[←xT,eT,eT]
 simp[G.real]
theorem ph {l:List Int} {n:Nat} (h:n=(t.d_I64 l).length):g.rd (t.d_I64 l) 0 n=t.r_I64 l:=by rw[Ds hg ht,h,nP ht];simp
theorem fW {l:List Int} {i:Int} {k:Nat} (hi:i=((k:Nat):Int)) (hc:k<l.length):g.lt i (g.llen (t.r_I64 l))=true:=by subst hg;simp[G.real,nD ht];omega
theorem eX {l:List Int} {i:Int} {k:Nat} (hi:i=((k:Nat):Int)) (hc:¬k<l.length):g.lt i (g.llen (t.r_I64 l))=false:=by subst hg;simp[G.real,nD ht];omega
theorem jt {l:List Int} {i:Int} {k:Nat} (hi:i=((k:Nat):Int)) (hc:k<l.length) (hm:(t.r_I64 l).length≤maxLen):g.wrap .i64 (g.add i 1)=((k+1:Nat):Int):=by
 subst hg;rw[nD ht] at hm;unfold maxLen at hm;simp only[G.real];rw[i64_in]<;>omega
@[simp] theorem AV (l:List Int):G.real.llen (TE.real.r_I64 l)=(l.length:Int):=by rw[nY];simp[G.real]
@[simp] theorem cO (l:List Int):G.real.dlen (TE.real.d_I64 l)=l.length:=by rw[eT];simp[G.real]
@[simp] theorem D1 (l:List Int):(TE.real.r_I64 l).length=l.length:=by rw[nY];simp
theorem vQ (m:List Int):g.up (t.r_I64 m)=t.d_I64 m:=by subst hg;subst ht;rw[nY,eT];simp[G.real,I64.rs,I64.ds]
theorem tQ {m:List Int} {n:Nat} (h:n=(t.d_I64 m).length):0+n≤(t.d_I64 m).length∧iO (((t.d_I64 m).drop 0).take n)=true:=by
 subst h;subst ht;refine⟨by omega,?_⟩
 simp only[List.drop_zero,List.take_length,eT];exact sQ Cc m
end
theorem Ba (x:Trip):mz (Trip.ds TE.real x)=true:=rfl
theorem nh (l:List Trip):TE.real.r_Trip l=l.map (Trip.rs TE.real):=rfl
theorem fQ (l:List Trip):TE.real.d_Trip l=l.map (Trip.ds TE.real):=rfl
theorem Ac (x:Trip):eS (Trip.ds TE.real x)=Trip.rs TE.real x:=by simp[Trip.ds,Trip.rs,eS,lu]
theorem As (x:Trip):cr (Trip.ds TE.real x)=true:=by simp[Trip.ds,cr,fq]
theorem uv (l:List Trip):toRdss (TE.real.d_Trip l)=TE.real.r_Trip l:=by rw[fQ,nh];exact jx Ac l
theorem AJ (l:List Trip):cz (TE.real.d_Trip l)=true:=by rw[fQ];exact qa As l
section
variable {g:G} {t:TE} (hg:g=G.real) (ht:t=TE.real)
include ht
theorem lX (l:List Trip):(t.r_Trip l).length=l.length:=by subst ht;rw[nh];simp
theorem lI (l:List Trip):(t.d_Trip l).length=l.length:=by subst ht;rw[fQ];simp
theorem qI:t.d_Trip []=[]:=by subst ht;rfl
theorem vI (l:List Trip):cz (t.d_Trip l)=true:=by subst ht;exact AJ l
theorem rM {l:List Trip} {n:Nat} (h:n=(t.d_Trip l).length):0+n≤(t.d_Trip l).length:=by omega
include hg
theorem wC {l:List Trip} {i:Nat} {x:Trip} (h:l[i]?=some x):(t.r_Trip l)[i]?=some (Trip.rs t x):=by subst ht;rw[nh];exact e9 _ h
theorem vV {l:List Trip} {i:Nat} {x:Trip} (h:l[i]?=some x):(t.d_Trip l)[i]?=some (Trip.ds t x):=by subst ht;rw[fQ];exact e9 _ h
theorem cN {l:List Trip} {i:Int} {k:Nat} {x:Trip} (hi:i=((k:Nat):Int)) (h:l[k]?=some x):(t.r_Trip l)[g.nat i]?=some (Trip.rs t x):=by
 subst hg;subst hi;exact wC rfl ht (by simpa [G.real] using h)
theorem ed (l:List Trip):List.map (Trip.ds t) l=t.d_Trip l:=by subst ht;rfl
theorem dH (l:List Trip):l.length=g.dlen (t.d_Trip l):=by subst hg;subst ht;rw[fQ];simp[G.real]
theorem aw (l:List Trip):g.dlen (t.d_Trip l)=(t.d_Trip l).length:=by subst hg;rfl
theorem kw {l m:List Trip} {n:Nat} {news:List (List D)} (h1:n=(t.d_Trip l).length) (h2:news=t.d_Trip m):g.dapp (t.d_Trip l) n news=t.d_Trip (l++m):=by
 subst h1;subst h2;subst hg;subst ht;simp only[fQ,G.real,List.map_append,List.take_length]
theorem jn {l m:List Trip} {n:Nat} {news:List (List D)} (h1:n=(t.d_Trip l).length) (h2:news=t.d_Trip m):g.nadd n (g.dlen news)=g.dlen (t.d_Trip (l++m)):=by
 subst h1;subst h2;subst hg;subst ht;simp only[fQ,G.real,List.map_append,List.length_append]
theorem gr {l m:List Trip} {n b:Nat} {news:List (List D)} (h1:n=(t.d_Trip l).length) (h2:news=t.d_Trip m) (h:(l.length+m.length)*b≤70368744177664) (hb:0<b:=by decide):0=0∧n≤(t.d_Trip l).length∧n+news.length≤maxLen∧(n+news.length)*b≤140737488355328:=
 ln h1 (lI ht l) (h2▸lI ht m) hb h
theorem lL {m:List Trip} {n:Nat} (h:n=(t.d_Trip m).length):g.dsub (t.d_Trip m) 0 n=t.d_Trip m:=by subst h;subst hg;simp[G.real]
theorem vg (l:List Trip):g.rda (t.d_Trip l)=t.r_Trip l:=by subst hg;subst ht;exact uv l
theorem B9 (l:List Trip) (lo n:Nat):g.rd (t.d_Trip l) lo n=t.r_Trip (List.take n (List.drop lo l)):=by
 subst hg;subst ht
 rw[←uv,fQ,fQ]
 simp[G.real]
theorem tS {l:List Trip} {n:Nat} (h:n=(t.d_Trip l).length):g.rd (t.d_Trip l) 0 n=t.r_Trip l:=by rw[B9 hg ht,h,lI ht];simp
theorem cK {l:List Trip} {i:Int} {k:Nat} (hi:i=((k:Nat):Int)) (hc:k<l.length):g.lt i (g.llen (t.r_Trip l))=true:=by subst hg;simp[G.real,lX ht];omega
theorem cf {l:List Trip} {i:Int} {k:Nat} (hi:i=((k:Nat):Int)) (hc:¬k<l.length):g.lt i (g.llen (t.r_Trip l))=false:=by subst hg;simp[G.real,lX ht];omega
theorem eE {l:List Trip} {i:Int} {k:Nat} (hi:i=((k:Nat):Int)) (hc:k<l.length) (hm:(t.r_Trip l).length≤maxLen):g.wrap .i64 (g.add i 1)=((k+1:Nat):Int):=by
 subst hg;rw[lX ht] at hm;unfold maxLen at hm;simp only[G.real];rw[i64_in]<;>omega
@[simp] theorem lp (l:List Trip):G.real.llen (TE.real.r_Trip l)=(l.length:Int):=by rw[nh];simp[G.real]
@[simp] theorem pH (l:List Trip):G.real.dlen (TE.real.d_Trip l)=l.length:=by rw[fQ];simp[G.real]
@[simp] theorem Dl (l:List Trip):(TE.real.r_Trip l).length=l.length:=by rw[nh];simp
theorem tq {m:List Trip} {n:Nat} (h:n=(t.d_Trip m).length):0+n≤(t.d_Trip m).length∧iO (((t.d_Trip m).drop 0).take n)=true:=by
 subst h;subst ht;refine⟨by omega,?_⟩
 simp only[List.drop_zero,List.take_length,fQ];exact sQ Ba m
end
theorem ef (l:List Booking):TE.real.r_Booking l=l.map (Booking.rs TE.real):=rfl
theorem bw (l:List Booking):TE.real.d_Booking l=l.map (Booking.ds TE.real):=rfl
theorem vu (x:Booking):eS (Booking.ds TE.real x)=Booking.rs TE.real x:=by simp[Booking.ds,Booking.rs,eS,lu]
theorem t8 (x:Booking):cr (Booking.ds TE.real x)=true:=by simp[Booking.ds,cr,fq]
theorem oO (l:List Booking):toRdss (TE.real.d_Booking l)=TE.real.r_Booking l:=by rw[bw,ef];exact jx vu l
theorem ve (l:List Booking):cz (TE.real.d_Booking l)=true:=by rw[bw];exact qa t8 l
section
variable {g:G} {t:TE} (hg:g=G.real) (ht:t=TE.real)
include ht
theorem iJ (l:List Booking):(t.r_Booking l).length=l.length:=by subst ht;rw[ef];simp
theorem eV (l:List Booking):(t.d_Booking l).length=l.length:=by subst ht;rw[bw];simp
theorem re:t.d_Booking []=[]:=by subst ht;rfl
theorem gl (l:List Booking) (i:Nat) (x:Booking):(t.d_Booking (l.set i x)).length=(t.d_Booking l).length:=by subst ht;rw[bw,bw];simp
theorem j7 {l l2:List Booking} {n:Nat} (h:n=(t.d_Booking l).length) (h2:l2.length=l.length):n=(t.d_Booking l2).length:=by rw[h,eV ht,eV ht,h2]
theorem lv (l:List Booking):cz (t.d_Booking l)=true:=by subst ht;exact ve l
theorem fV {l:List Booking} {n:Nat} (h:n=(t.d_Booking l).length):0+n≤(t.d_Booking l).length:=by omega
include hg
theorem e7 {l:List Booking} {i:Nat} {x:Booking} (h:l[i]?=some x):(t.r_Booking l)[i]?=some (Booking.rs t x):=by subst ht;rw[ef];exact e9 _ h
theorem dZ {l:List Booking} {i:Nat} {x:Booking} (h:l[i]?=some x):(t.d_Booking l)[i]?=some (Booking.ds t x):=by subst ht;rw[bw];exact e9 _ h
theorem bL {l:List Booking} {i:Int} {k:Nat} {x:Booking} (hi:i=((k:Nat):Int)) (h:l[k]?=some x):(t.r_Booking l)[g.nat i]?=some (Booking.rs t x):=by
 subst hg;subst hi;exact e7 rfl ht (by simpa [G.real] using h)
theorem fD (l:List Booking):List.map (Booking.ds t) l=t.d_Booking l:=by subst ht;rfl
theorem eJ (l:List Booking):l.length=g.dlen (t.d_Booking l):=by subst hg;subst ht;rw[bw];simp[G.real]
theorem ah (l:List Booking):g.dlen (t.d_Booking l)=(t.d_Booking l).length:=by subst hg;rfl
theorem gT (l:List Booking) (i:Nat) (x:Booking):g.dset (t.d_Booking l) i (Booking.ds t x)=t.d_Booking (l.set i x):=by subst hg;subst ht;rw[bw,bw];simp[G.real,List.map_set]
theorem fI {l m:List Booking} {n:Nat} {news:List (List D)} (h1:n=(t.d_Booking l).length) (h2:news=t.d_Booking m):g.dapp (t.d_Booking l) n news=t.d_Booking (l++m):=by
 subst h1;subst h2;subst hg;subst ht;simp only[bw,G.real,List.map_append,List.take_length]
theorem eI {l m:List Booking} {n:Nat} {news:List (List D)} (h1:n=(t.d_Booking l).length) (h2:news=t.d_Booking m):g.nadd n (g.dlen news)=g.dlen (t.d_Booking (l++m)):=by
 subst h1;subst h2;subst hg;subst ht;simp only[bw,G.real,List.map_append,List.length_append]
theorem dC {l m:List Booking} {n b:Nat} {news:List (List D)} (h1:n=(t.d_Booking l).length) (h2:news=t.d_Booking m) (h:(l.length+m.length)*b≤70368744177664) (hb:0<b:=by decide):0=0∧n≤(t.d_Booking l).length∧n+news.length≤maxLen∧(n+news.length)*b≤140737488355328:=
 ln h1 (eV ht l) (h2▸eV ht m) hb h
theorem og (l:List Booking):g.rda (t.d_Booking l)=t.r_Booking l:=by subst hg;subst ht;exact oO l
theorem wB (l:List Booking) (lo n:Nat):g.rd (t.d_Booking l) lo n=t.r_Booking (List.take n (List.drop lo l)):=by
 subst hg;subst ht
 rw[←oO,bw,bw]
 simp[G.real]
theorem gm {l:List Booking} {n:Nat} (h:n=(t.d_Booking l).length):g.rd (t.d_Booking l) 0 n=t.r_Booking l:=by rw[wB hg ht,h,eV ht];simp
theorem mE (l:List Booking) (a b:Int):g.rsub (t.r_Booking l) a b=t.r_Booking (List.drop (g.nat a) (List.take (g.nat b) l)):=by subst hg;subst ht;rw[ef,ef];simp[G.real]
theorem bU {l:List Booking} {i:Int} {k:Nat} (hi:i=((k:Nat):Int)) (hc:k<l.length):g.lt i (g.llen (t.r_Booking l))=true:=by subst hg;simp[G.real,iJ ht];omega
theorem bM {l:List Booking} {i:Int} {k:Nat} (hi:i=((k:Nat):Int)) (hc:¬k<l.length):g.lt i (g.llen (t.r_Booking l))=false:=by subst hg;simp[G.real,iJ ht];omega
theorem dt {l:List Booking} {i:Int} {k:Nat} (hi:i=((k:Nat):Int)) (hc:k<l.length) (hm:(t.r_Booking l).length≤maxLen):g.wrap .i64 (g.add i 1)=((k+1:Nat):Int):=by
 subst hg;rw[iJ ht] at hm;unfold maxLen at hm;simp only[G.real];rw[i64_in]<;>omega
@[simp] theorem jP (l:List Booking):G.real.llen (TE.real.r_Booking l)=(l.length:Int):=by rw[ef];simp[G.real]
@[simp] theorem rf (l:List Booking):G.real.dlen (TE.real.d_Booking l)=l.length:=by rw[bw];simp[G.real]
@[simp] theorem rg (l:List Booking):(TE.real.r_Booking l).length=l.length:=by rw[ef];simp
theorem dQ (m:List Booking):g.up (t.r_Booking m)=t.d_Booking m:=by subst hg;subst ht;rw[ef,bw];simp[G.real,Booking.rs,Booking.ds]
end
theorem Ez (x:ByteArray):mz (S.ds TE.real x)=true:=rfl
theorem zL (l:List ByteArray):TE.real.r_S l=l.map (S.rs TE.real):=rfl
theorem oV (l:List ByteArray):TE.real.d_S l=l.map (S.ds TE.real):=rfl
theorem FSq (x:ByteArray):eS (S.ds TE.real x)=S.rs TE.real x:=by simp[S.ds,S.rs,eS,lu]
theorem CI (l:List ByteArray):toRdss (TE.real.d_S l)=TE.real.r_S l:=by rw[oV,zL];exact jx FSq l
section
variable {g:G} {t:TE} (hg:g=G.real) (ht:t=TE.real)
include ht
theorem tu (l:List ByteArray):(t.r_S l).length=l.length:=by subst ht;rw[zL];simp
theorem k8 (l:List ByteArray):(t.d_S l).length=l.length:=by subst ht;rw[oV];simp
theorem B3:t.d_S []=[]:=by subst ht;rfl
theorem DG {l l2:List ByteArray} {n:Nat} (h:n=(t.d_S l).length) (h2:l2.length=l.length):n=(t.d_S l2).length:=by rw[h,k8 ht,k8 ht,h2]
theorem eU {l:List ByteArray} {n:Nat} (h:n=(t.d_S l).length):0+n≤(t.d_S l).length:=by omega
include hg
theorem o8 {l:List ByteArray} {i:Nat} {x:ByteArray} (h:l[i]?=some x):(t.r_S l)[i]?=some (S.rs t x):=by subst ht;rw[zL];exact e9 _ h
theorem lg {l:List ByteArray} {i:Nat} {x:ByteArray} (h:l[i]?=some x):(t.d_S l)[i]?=some (S.ds t x):=by subst ht;rw[oV];exact e9 _ h
theorem vw {l:List ByteArray} {i:Int} {k:Nat} {x:ByteArray} (hi:i=((k:Nat):Int)) (h:l[k]?=some x):(t.r_S l)[g.nat i]?=some (S.rs t x):=by
 subst hg;subst hi;exact o8 rfl ht (by simpa [G.real] using h)
theorem i7 (l:List ByteArray):List.map (S.ds t) l=t.d_S l:=by subst ht;rfl
theorem gG (l:List ByteArray):l.length=g.dlen (t.d_S l):=by subst hg;subst ht;rw[oV];simp[G.real]
theorem ap (l:List ByteArray):g.dlen (t.d_S l)=(t.d_S l).length:=by subst hg;rfl
theorem iT {l m:List ByteArray} {n:Nat} {news:List (List D)} (h1:n=(t.d_S l).length) (h2:news=t.d_S m):g.dapp (t.d_S l) n news=t.d_S (l++m):=by
 subst h1;subst h2;subst hg;subst ht;simp only[oV,G.real,List.map_append,List.take_length]
theorem f6 {l m:List ByteArray} {n:Nat} {news:List (List D)} (h1:n=(t.d_S l).length) (h2:news=t.d_S m):g.nadd n (g.dlen news)=g.dlen (t.d_S (l++m)):=by
 subst h1;subst h2;subst hg;subst ht;simp only[oV,G.real,List.map_append,List.length_append]
theorem dE {l m:List ByteArray} {n b:Nat} {news:List (List D)} (h1:n=(t.d_S l).length) (h2:news=t.d_S m) (h:(l.length+m.length)*b≤70368744177664) (hb:0<b:=by decide):0=0∧n≤(t.d_S l).length∧n+news.length≤maxLen∧(n+news.length)*b≤140737488355328:=
 ln h1 (k8 ht l) (h2▸k8 ht m) hb h
theorem Et (l:List ByteArray):g.rda (t.d_S l)=t.r_S l:=by subst hg;subst ht;exact CI l
theorem Br (l:List ByteArray):g.rda (List.map (S.ds t) l)=t.r_S l:=by rw[i7 hg ht];exact Et hg ht l
theorem rd_S (l:List ByteArray) (lo n:Nat):g.rd (t.d_S l) lo n=t.r_S (List.take n (List.drop lo l)):=by
 subst hg;subst ht
 rw[←CI,oV,oV]
 simp[G.real]
theorem gL {l:List ByteArray} {n:Nat} (h:n=(t.d_S l).length):g.rd (t.d_S l) 0 n=t.r_S l:=by rw[rd_S hg ht,h,k8 ht];simp
theorem mc {l:List ByteArray} {i:Int} {k:Nat} (hi:i=((k:Nat):Int)) (hc:k<l.length):g.lt i (g.llen (t.r_S l))=true:=by subst hg;simp[G.real,tu ht];omega
theorem kj {l:List ByteArray} {i:Int} {k:Nat} (hi:i=((k:Nat):Int)) (hc:¬k<l.length):g.lt i (g.llen (t.r_S l))=false:=by subst hg;simp[G.real,tu ht];omega
theorem sY {l:List ByteArray} {i:Int} {k:Nat} (hi:i=((k:Nat):Int)) (hc:k<l.length) (hm:(t.r_S l).length≤maxLen):g.wrap .i64 (g.add i 1)=((k+1:Nat):Int):=by
 subst hg;rw[tu ht] at hm;unfold maxLen at hm;simp only[G.real];rw[i64_in]<;>omega
@[simp] theorem llen_S (l:List ByteArray):G.real.llen (TE.real.r_S l)=(l.length:Int):=by rw[zL];simp[G.real]
@[simp] theorem iy (l:List ByteArray):G.real.dlen (TE.real.d_S l)=l.length:=by rw[oV];simp[G.real]
@[simp] theorem rlenx_S (l:List ByteArray):(TE.real.r_S l).length=l.length:=by rw[zL];simp
theorem cB (m:List ByteArray) (lo n:Nat):g.dsub (t.d_S m) lo n=t.d_S (List.take n (List.drop lo m)):=by subst hg;subst ht;rw[oV,oV];simp[G.real]
theorem fH {m:List ByteArray} {lo n:Nat} (h:lo+n≤m.length):lo+n≤(t.d_S m).length∧iO (((t.d_S m).drop lo).take n)=true:=by
 subst ht;refine⟨by rw[k8 rfl];exact h,?_⟩
 rw[oV,←List.map_drop,←List.map_take];exact sQ Ez _
end
theorem wW (l:List (List Int)):TE.real.r_LI64 l=l.map (LI64.rs TE.real):=rfl
theorem iA (l:List (List Int)):TE.real.d_LI64 l=l.map (LI64.ds TE.real):=rfl
section
variable {g:G} {t:TE} (hg:g=G.real) (ht:t=TE.real)
include ht
theorem pL (l:List (List Int)):(t.d_LI64 l).length=l.length:=by subst ht;rw[iA];simp
theorem wF:t.d_LI64 []=[]:=by subst ht;rfl
include hg
theorem jC {l:List (List Int)} {i:Nat} {x:(List Int)} (h:l[i]?=some x):(t.d_LI64 l)[i]?=some (LI64.ds t x):=by subst ht;rw[iA];exact e9 _ h
theorem uJ (l:List (List Int)):List.map (LI64.ds t) l=t.d_LI64 l:=by subst ht;rfl
theorem sg (l:List (List Int)):l.length=g.dlen (t.d_LI64 l):=by subst hg;subst ht;rw[iA];simp[G.real]
theorem lh (l:List (List Int)):g.dlen (t.d_LI64 l)=(t.d_LI64 l).length:=by subst hg;rfl
theorem yh (l:List (List Int)) (i:Nat) (x:(List Int)):g.dset (t.d_LI64 l) i (LI64.ds t x)=t.d_LI64 (l.set i x):=by subst hg;subst ht;rw[iA,iA];simp[G.real,List.map_set]
theorem j9 {l:List (List Int)} {i:Nat} {x:(List Int)} (h:l[i]?=some x):g.dset (t.d_LI64 l) i (LI64.ds t x)=t.d_LI64 l:=by
 rw[yh hg ht]
 congr 1
 apply List.ext_getElem?
 intro j
 rw[List.getElem?_set]
 split
 ·rename_i e
  subst e
  rw[h]
  split
  ·rfl
  ·rename_i hn
   rw[List.getElem?_eq_none (by omega)] at h
   cases h
 ·rfl
theorem Az {l m:List (List Int)} {n:Nat} {news:List (List D)} (h1:n=(t.d_LI64 l).length) (h2:news=t.d_LI64 m):g.dapp (t.d_LI64 l) n news=t.d_LI64 (l++m):=by
 subst h1;subst h2;subst hg;subst ht;simp only[iA,G.real,List.map_append,List.take_length]
theorem zA {l m:List (List Int)} {n:Nat} {news:List (List D)} (h1:n=(t.d_LI64 l).length) (h2:news=t.d_LI64 m):g.nadd n (g.dlen news)=g.dlen (t.d_LI64 (l++m)):=by
 subst h1;subst h2;subst hg;subst ht;simp only[iA,G.real,List.map_append,List.length_append]
theorem uX {l m:List (List Int)} {n b:Nat} {news:List (List D)} (h1:n=(t.d_LI64 l).length) (h2:news=t.d_LI64 m) (h:(l.length+m.length)*b≤70368744177664) (hb:0<b:=by decide):0=0∧n≤(t.d_LI64 l).length∧n+news.length≤maxLen∧(n+news.length)*b≤140737488355328:=
 ln h1 (pL ht l) (h2▸pL ht m) hb h
@[simp] theorem D2 (l:List (List Int)):G.real.llen (TE.real.r_LI64 l)=(l.length:Int):=by rw[wW];simp[G.real]
@[simp] theorem pS (l:List (List Int)):G.real.dlen (TE.real.d_LI64 l)=l.length:=by rw[iA];simp[G.real]
@[simp] theorem DJ (l:List (List Int)):(TE.real.r_LI64 l).length=l.length:=by rw[wW];simp
end
end Go.Vs
