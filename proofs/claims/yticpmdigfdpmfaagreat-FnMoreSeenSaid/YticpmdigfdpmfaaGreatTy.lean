/- Part of the proofs of this seat's laws: Ty. No condition. -/
import Derived.Test.YticpmdigfdpmfaaGreatVf
set_option linter.unusedVariables false
set_option linter.unusedSimpArgs false
set_option linter.unusedSectionVars false
namespace Go.Vs
open Go.IntWalk
set_option linter.unusedVariables false
set_option linter.unusedSimpArgs false
set_option linter.unusedSectionVars false
structure Trip where
 Leg:Int
 Day:Int
structure Scan where
 Thing:Int
 At:Int
 Kind:Int
 Place:ByteArray
 Trip:Trip
structure Leg where
 From:ByteArray
 To:ByteArray
 Start:Int
 Takes:Int
 Days:Int
 Room:Int
structure Network where
 Legs:List Leg
 Off:List Int
 Change:Int
structure Booking where
 Thing:Int
 Trip:Trip
 Weight:Int
structure Belief where
 Places:List ByteArray
 Rides:List Trip
structure Cur where
 b:List Int
 i:Int
 h:Int
structure Spot where
 Place:ByteArray
 At:Int
structure Know where
 n:Network
 at_:Int
 known:Bool
 place:ByteArray
 ride:Trip
 rides:Bool
 free:Bool
 from_:Spot
 to:Spot
 more:Bool
def rU8 (l:List Int):List (List R):=l.map fun x=>[.v (.int .u8 x)]
def dU8 (l:List Int):List (List D):=l.map fun x=>[.r (.v (.int .u8 x))]
def Gz (l:List Scan):List (List R):=l.map fun x=>[.v (.int .i64 x.Thing),.v (.int .i64 x.At),.v (.int .i64 x.Kind),.v (.string x.Place),.v (.int .i64 x.Trip.Leg),.v (.int .i64 x.Trip.Day)]
def He (l:List Scan):List (List D):=l.map fun x=>[.r (.v (.int .i64 x.Thing)),.r (.v (.int .i64 x.At)),.r (.v (.int .i64 x.Kind)),.r (.v (.string x.Place)),.r (.v (.int .i64 x.Trip.Leg)),.r (.v (.int .i64 x.Trip.Day))]
def Fi (l:List Leg):List (List R):=l.map fun x=>[.v (.string x.From),.v (.string x.To),.v (.int .i64 x.Start),.v (.int .i64 x.Takes),.v (.int .i64 x.Days),.v (.int .i64 x.Room)]
def dLeg (l:List Leg):List (List D):=l.map fun x=>[.r (.v (.string x.From)),.r (.v (.string x.To)),.r (.v (.int .i64 x.Start)),.r (.v (.int .i64 x.Takes)),.r (.v (.int .i64 x.Days)),.r (.v (.int .i64 x.Room))]
def D6 (l:List Int):List (List R):=l.map fun x=>[.v (.int .i64 x)]
def G1 (l:List Int):List (List D):=l.map fun x=>[.r (.v (.int .i64 x))]
def Ej (l:List Trip):List (List R):=l.map fun x=>[.v (.int .i64 x.Leg),.v (.int .i64 x.Day)]
def FV (l:List Trip):List (List D):=l.map fun x=>[.r (.v (.int .i64 x.Leg)),.r (.v (.int .i64 x.Day))]
def uQ (l:List Booking):List (List R):=l.map fun x=>[.v (.int .i64 x.Thing),.v (.int .i64 x.Trip.Leg),.v (.int .i64 x.Trip.Day),.v (.int .i64 x.Weight)]
def Cq (l:List Booking):List (List D):=l.map fun x=>[.r (.v (.int .i64 x.Thing)),.r (.v (.int .i64 x.Trip.Leg)),.r (.v (.int .i64 x.Trip.Day)),.r (.v (.int .i64 x.Weight))]
def rS (l:List ByteArray):List (List R):=l.map fun x=>[.v (.string x)]
def dS (l:List ByteArray):List (List D):=l.map fun x=>[.r (.v (.string x))]
def HA (l:List (List Int)):List (List R):=l.map fun x=>[.s 1 (D6 x)]
def Hg (l:List (List Int)):List (List D):=l.map fun x=>[.o 1 (G1 x)]
inductive Fd where
 |I_nextOf_1 (a0:Network)
 |I_freeOf_1 (a0:Network) (a1:List Trip) (a2:List Booking) (a3:Int)
def rFd:Fd→R
 |.I_nextOf_1 a0=>.fn 111 [[.s 6 (Fi a0.Legs),.s 1 (D6 a0.Off),.v (.int .i64 a0.Change)]]
 |.I_freeOf_1 a0 a1 a2 a3=>.fn 126 [[.s 6 (Fi a0.Legs),.s 1 (D6 a0.Off),.v (.int .i64 a0.Change)],[.s 2 (Ej a1)],[.s 4 (uQ a2)],[.v (.int .i64 a3)]]
structure TE where
 r_U8:List Int→List (List R)
 d_U8:List Int→List (List D)
 r_Scan:List Scan→List (List R)
 d_Scan:List Scan→List (List D)
 r_Leg:List Leg→List (List R)
 d_Leg:List Leg→List (List D)
 r_I64:List Int→List (List R)
 d_I64:List Int→List (List D)
 r_Trip:List Trip→List (List R)
 d_Trip:List Trip→List (List D)
 r_Booking:List Booking→List (List R)
 d_Booking:List Booking→List (List D)
 r_S:List ByteArray→List (List R)
 d_S:List ByteArray→List (List D)
 r_LI64:List (List Int)→List (List R)
 d_LI64:List (List Int)→List (List D)
 r_Fd:Fd→R
def TE.real:TE:=⟨rU8,dU8,Gz,He,Fi,dLeg,D6,G1,Ej,FV,uQ,Cq,rS,dS,HA,Hg,rFd⟩
theorem k8 {t:TE} (ht:t=TE.real) (a0:Network):R.fn 111 [[.s 6 (t.r_Leg a0.Legs),.s 1 (t.r_I64 a0.Off),.v (.int .i64 a0.Change)]]=t.r_Fd (.I_nextOf_1 a0):=by subst ht;rfl
theorem qQ {t:TE} (ht:t=TE.real) (a0:Network) (a1:List Trip) (a2:List Booking) (a3:Int):R.fn 126 [[.s 6 (t.r_Leg a0.Legs),.s 1 (t.r_I64 a0.Off),.v (.int .i64 a0.Change)],[.s 2 (t.r_Trip a1)],[.s 4 (t.r_Booking a2)],[.v (.int .i64 a3)]]=t.r_Fd (.I_freeOf_1 a0 a1 a2 a3):=by subst ht;rfl
def Trip.rs (t:TE) (x:Trip):List R:=[.v (.int .i64 x.Leg),.v (.int .i64 x.Day)]
def Trip.ds (t:TE) (x:Trip):List D:=[.r (.v (.int .i64 x.Leg)),.r (.v (.int .i64 x.Day))]
def Scan.rs (t:TE) (x:Scan):List R:=[.v (.int .i64 x.Thing),.v (.int .i64 x.At),.v (.int .i64 x.Kind),.v (.string x.Place),.v (.int .i64 x.Trip.Leg),.v (.int .i64 x.Trip.Day)]
def Scan.ds (t:TE) (x:Scan):List D:=[.r (.v (.int .i64 x.Thing)),.r (.v (.int .i64 x.At)),.r (.v (.int .i64 x.Kind)),.r (.v (.string x.Place)),.r (.v (.int .i64 x.Trip.Leg)),.r (.v (.int .i64 x.Trip.Day))]
def Leg.rs (t:TE) (x:Leg):List R:=[.v (.string x.From),.v (.string x.To),.v (.int .i64 x.Start),.v (.int .i64 x.Takes),.v (.int .i64 x.Days),.v (.int .i64 x.Room)]
def Leg.ds (t:TE) (x:Leg):List D:=[.r (.v (.string x.From)),.r (.v (.string x.To)),.r (.v (.int .i64 x.Start)),.r (.v (.int .i64 x.Takes)),.r (.v (.int .i64 x.Days)),.r (.v (.int .i64 x.Room))]
def Network.rs (t:TE) (x:Network):List R:=[.s 6 (t.r_Leg x.Legs),.s 1 (t.r_I64 x.Off),.v (.int .i64 x.Change)]
def Network.ds (t:TE) (x:Network):List D:=[.o 6 (t.d_Leg x.Legs),.o 1 (t.d_I64 x.Off),.r (.v (.int .i64 x.Change))]
def Booking.rs (t:TE) (x:Booking):List R:=[.v (.int .i64 x.Thing),.v (.int .i64 x.Trip.Leg),.v (.int .i64 x.Trip.Day),.v (.int .i64 x.Weight)]
def Booking.ds (t:TE) (x:Booking):List D:=[.r (.v (.int .i64 x.Thing)),.r (.v (.int .i64 x.Trip.Leg)),.r (.v (.int .i64 x.Trip.Day)),.r (.v (.int .i64 x.Weight))]
def Belief.rs (t:TE) (x:Belief):List R:=[.s 1 (t.r_S x.Places),.s 2 (t.r_Trip x.Rides)]
def Belief.ds (t:TE) (x:Belief):List D:=[.o 1 (t.d_S x.Places),.o 2 (t.d_Trip x.Rides)]
def Cur.rs (t:TE) (x:Cur):List R:=[.s 1 (t.r_U8 x.b),.v (.int .i64 x.i),.v (.int .i64 x.h)]
def Cur.ds (t:TE) (x:Cur):List D:=[.r (.s 1 (t.r_U8 x.b)),.r (.v (.int .i64 x.i)),.r (.v (.int .i64 x.h))]
def Spot.rs (t:TE) (x:Spot):List R:=[.v (.string x.Place),.v (.int .i64 x.At)]
def Spot.ds (t:TE) (x:Spot):List D:=[.r (.v (.string x.Place)),.r (.v (.int .i64 x.At))]
def Know.rs (t:TE) (x:Know):List R:=[.s 6 (t.r_Leg x.n.Legs),.s 1 (t.r_I64 x.n.Off),.v (.int .i64 x.n.Change),.v (.int .i64 x.at_),.v (.bool x.known),.v (.string x.place),.v (.int .i64 x.ride.Leg),.v (.int .i64 x.ride.Day),.v (.bool x.rides),.v (.bool x.free),.v (.string x.from_.Place),.v (.int .i64 x.from_.At),.v (.string x.to.Place),.v (.int .i64 x.to.At),.v (.bool x.more)]
def Know.ds (t:TE) (x:Know):List D:=[.r (.s 6 (t.r_Leg x.n.Legs)),.r (.s 1 (t.r_I64 x.n.Off)),.r (.v (.int .i64 x.n.Change)),.r (.v (.int .i64 x.at_)),.r (.v (.bool x.known)),.r (.v (.string x.place)),.r (.v (.int .i64 x.ride.Leg)),.r (.v (.int .i64 x.ride.Day)),.r (.v (.bool x.rides)),.r (.v (.bool x.free)),.r (.v (.string x.from_.Place)),.r (.v (.int .i64 x.from_.At)),.r (.v (.string x.to.Place)),.r (.v (.int .i64 x.to.At)),.r (.v (.bool x.more))]
def U8.rs (t:TE) (x:Int):List R:=[.v (.int .u8 x)]
def U8.ds (t:TE) (x:Int):List D:=[.r (.v (.int .u8 x))]
def I64.rs (t:TE) (x:Int):List R:=[.v (.int .i64 x)]
def I64.ds (t:TE) (x:Int):List D:=[.r (.v (.int .i64 x))]
def S.rs (t:TE) (x:ByteArray):List R:=[.v (.string x)]
def S.ds (t:TE) (x:ByteArray):List D:=[.r (.v (.string x))]
def LI64.rs (t:TE) (x:List Int):List R:=[.s 1 (t.r_I64 x)]
def LI64.ds (t:TE) (x:List Int):List D:=[.o 1 (t.d_I64 x)]
theorem eL {α β:Type} (f:α→β) {l:List α} {i:Nat} {x:α} (h:l[i]?=some x):(l.map f)[i]?=some (f x):=by rw[List.getElem?_map,h];rfl
theorem jy {α:Type} {f:α→List D} {q:α→List R} (h:∀x,eZ (f x)=q x) (l:List α):toRdss (l.map f)=l.map q:=by
 induction l with
 |nil=>rfl
 |cons x l ih=>simp only[List.map_cons,toRdss,h,ih]
theorem CG {α:Type} {f:α→List D} (h:∀x,eQ (f x)=true) (l:List α):gm (l.map f)=true:=by
 induction l with
 |nil=>rfl
 |cons x l ih=>simp only[List.map_cons,gm,h,ih,Bool.and_self]
theorem t5 {α:Type} {f:α→List D} (h:∀x,nN (f x)=true) (l:List α):jn (l.map f)=true:=by
 induction l with
 |nil=>rfl
 |cons x l ih=>simp only[List.map_cons,jn,h,ih,Bool.and_self]
theorem yR (l:List Int):TE.real.r_U8 l=l.map (U8.rs TE.real):=rfl
theorem GP (l:List Int):TE.real.d_U8 l=l.map (U8.ds TE.real):=rfl
section
variable {g:G} {t:TE} (hg:g=G.real) (ht:t=TE.real)
include ht
theorem rq (l:List Int):(t.r_U8 l).length=l.length:=by subst ht;rw[yR];simp
theorem A4:t.d_U8 []=[]:=by subst ht;rfl
include hg
theorem qt {l:List Int} {i:Nat} {x:Int} (h:l[i]?=some x):(t.r_U8 l)[i]?=some (U8.rs t x):=by subst ht;rw[yR];exact eL _ h
theorem Az {l:List Int} {i:Int} {k:Nat} {x:Int} (hi:i=((k:Nat):Int)) (h:l[k]?=some x):(t.r_U8 l)[g.nat i]?=some (U8.rs t x):=by
 subst hg;subst hi;exact qt rfl ht (by simpa [G.real] using h)
theorem wh {l:List Int} {i:Int} {k:Nat} (hi:i=((k:Nat):Int)) (hc:k<l.length):g.lt i (g.llen (t.r_U8 l))=true:=by subst hg;simp[G.real,rq ht];omega
theorem uB {l:List Int} {i:Int} {k:Nat} (hi:i=((k:Nat):Int)) (hc:¬k<l.length):g.lt i (g.llen (t.r_U8 l))=false:=by subst hg;simp[G.real,rq ht];omega
theorem Bh {l:List Int} {i:Int} {k:Nat} (hi:i=((k:Nat):Int)) (hc:k<l.length) (hm:(t.r_U8 l).length≤maxLen):g.wrap .i64 (g.add i 1)=((k+1:Nat):Int):=by
 subst hg;rw[rq ht] at hm;unfold maxLen at hm;simp only[G.real];rw[i64_in]<;>omega
@[simp] theorem DC (l:List Int):G.real.llen (TE.real.r_U8 l)=(l.length:Int):=by rw[yR];simp[G.real]
@[simp] theorem G9 (l:List Int):G.real.dlen (TE.real.d_U8 l)=l.length:=by rw[GP];simp[G.real]
@[simp] theorem FK (l:List Int):(TE.real.r_U8 l).length=l.length:=by rw[yR];simp
end
theorem kA (l:List Scan):TE.real.r_Scan l=l.map (Scan.rs TE.real):=rfl
theorem jX (l:List Scan):TE.real.d_Scan l=l.map (Scan.ds TE.real):=rfl
theorem BO (x:Scan):eZ (Scan.ds TE.real x)=Scan.rs TE.real x:=by simp[Scan.ds,Scan.rs,eZ,lK]
theorem BD (l:List Scan):toRdss (TE.real.d_Scan l)=TE.real.r_Scan l:=by rw[jX,kA];exact jy BO l
section
variable {g:G} {t:TE} (hg:g=G.real) (ht:t=TE.real)
include ht
theorem mB (l:List Scan):(t.r_Scan l).length=l.length:=by subst ht;rw[kA];simp
theorem kz (l:List Scan):(t.d_Scan l).length=l.length:=by subst ht;rw[jX];simp
theorem wZ:t.d_Scan []=[]:=by subst ht;rfl
theorem tp {l l2:List Scan} {n:Nat} (h:n=(t.d_Scan l).length) (h2:l2.length=l.length):n=(t.d_Scan l2).length:=by rw[h,kz ht,kz ht,h2]
include hg
theorem md {l:List Scan} {i:Nat} {x:Scan} (h:l[i]?=some x):(t.r_Scan l)[i]?=some (Scan.rs t x):=by subst ht;rw[kA];exact eL _ h
theorem eC {l:List Scan} {i:Nat} {x:Scan} (h:l[i]?=some x):(t.d_Scan l)[i]?=some (Scan.ds t x):=by subst ht;rw[jX];exact eL _ h
theorem kF {l:List Scan} {i:Int} {k:Nat} {x:Scan} (hi:i=((k:Nat):Int)) (h:l[k]?=some x):(t.r_Scan l)[g.nat i]?=some (Scan.rs t x):=by
 subst hg;subst hi;exact md rfl ht (by simpa [G.real] using h)
theorem cD (l:List Scan):List.map (Scan.ds t) l=t.d_Scan l:=by subst ht;rfl
theorem bS (l:List Scan):l.length=g.dlen (t.d_Scan l):=by subst hg;subst ht;rw[jX];simp[G.real]
theorem ao (l:List Scan):g.dlen (t.d_Scan l)=(t.d_Scan l).length:=by subst hg;rfl
theorem fm {l m:List Scan} {n:Nat} {news:List (List D)} (h1:n=(t.d_Scan l).length) (h2:news=t.d_Scan m):g.dapp (t.d_Scan l) n news=t.d_Scan (l++m):=by
 subst h1;subst h2;subst hg;subst ht;simp only[jX,G.real,List.map_append,List.take_length]
theorem ee {l m:List Scan} {n:Nat} {news:List (List D)} (h1:n=(t.d_Scan l).length) (h2:news=t.d_Scan m):g.nadd n (g.dlen news)=g.dlen (t.d_Scan (l++m)):=by
 subst h1;subst h2;subst hg;subst ht;simp only[jX,G.real,List.map_append,List.length_append]
theorem cO {l m:List Scan} {n b:Nat} {news:List (List D)} (h1:n=(t.d_Scan l).length) (h2:news=t.d_Scan m) (h:(l.length+m.length)*b≤70368744177664) (hb:0<b:=by decide):0=0∧n≤(t.d_Scan l).length∧n+news.length≤maxLen∧(n+news.length)*b≤140737488355328:=
 lw h1 (kz ht l) (h2▸kz ht m) hb h
theorem Bx (l:List Scan):g.rda (t.d_Scan l)=t.r_Scan l:=by subst hg;subst ht;exact BD l
theorem AQ (l:List Scan) (a b:Int):g.rsub (t.r_Scan l) a b=t.r_Scan (List.drop (g.nat a) (List.take (g.nat b) l)):=by subst hg;subst ht;rw[kA,kA];simp[G.real]
theorem lM {l:List Scan} {i:Int} {k:Nat} (hi:i=((k:Nat):Int)) (hc:k<l.length):g.lt i (g.llen (t.r_Scan l))=true:=by subst hg;simp[G.real,mB ht];omega
theorem kM {l:List Scan} {i:Int} {k:Nat} (hi:i=((k:Nat):Int)) (hc:¬k<l.length):g.lt i (g.llen (t.r_Scan l))=false:=by subst hg;simp[G.real,mB ht];omega
theorem qo {l:List Scan} {i:Int} {k:Nat} (hi:i=((k:Nat):Int)) (hc:k<l.length) (hm:(t.r_Scan l).length≤maxLen):g.wrap .i64 (g.add i 1)=((k+1:Nat):Int):=by
 subst hg;rw[mB ht] at hm;unfold maxLen at hm;simp only[G.real];rw[i64_in]<;>omega
@[simp] theorem Aa (l:List Scan):G.real.llen (TE.real.r_Scan l)=(l.length:Int):=by rw[kA];simp[G.real]
@[simp] theorem eE (l:List Scan):G.real.dlen (TE.real.d_Scan l)=l.length:=by rw[jX];simp[G.real]
@[simp] theorem xj (l:List Scan):(TE.real.r_Scan l).length=l.length:=by rw[kA];simp
end
theorem rP (l:List Leg):TE.real.r_Leg l=l.map (Leg.rs TE.real):=rfl
theorem gI (l:List Leg):TE.real.d_Leg l=l.map (Leg.ds TE.real):=rfl
theorem D5 (x:Leg):eZ (Leg.ds TE.real x)=Leg.rs TE.real x:=by simp[Leg.ds,Leg.rs,eZ,lK]
theorem Dx (l:List Leg):toRdss (TE.real.d_Leg l)=TE.real.r_Leg l:=by rw[gI,rP];exact jy D5 l
section
variable {g:G} {t:TE} (hg:g=G.real) (ht:t=TE.real)
include ht
theorem oF (l:List Leg):(t.r_Leg l).length=l.length:=by subst ht;rw[rP];simp
theorem sr (l:List Leg):(t.d_Leg l).length=l.length:=by subst ht;rw[gI];simp
theorem sh:t.d_Leg []=[]:=by subst ht;rfl
theorem lp (l:List Leg) (i:Nat) (x:Leg):(t.d_Leg (l.set i x)).length=(t.d_Leg l).length:=by subst ht;rw[gI,gI];simp
include hg
theorem aX {l:List Leg} {i:Nat} {x:Leg} (h:l[i]?=some x):(t.r_Leg l)[i]?=some (Leg.rs t x):=by subst ht;rw[rP];exact eL _ h
theorem fP {l:List Leg} {i:Nat} {x:Leg} (h:l[i]?=some x):(t.d_Leg l)[i]?=some (Leg.ds t x):=by subst ht;rw[gI];exact eL _ h
theorem dV {l:List Leg} {i:Int} {k:Nat} {x:Leg} (hi:i=((k:Nat):Int)) (h:l[k]?=some x):(t.r_Leg l)[g.nat i]?=some (Leg.rs t x):=by
 subst hg;subst hi;exact aX rfl ht (by simpa [G.real] using h)
theorem tN (l:List Leg):List.map (Leg.ds t) l=t.d_Leg l:=by subst ht;rfl
theorem qh (l:List Leg):l.length=g.dlen (t.d_Leg l):=by subst hg;subst ht;rw[gI];simp[G.real]
theorem a7 (l:List Leg):g.dlen (t.d_Leg l)=(t.d_Leg l).length:=by subst hg;rfl
theorem nt:g.dlen (t.d_Leg [])=0:=by subst hg;subst ht;rfl
theorem nD (l:List Leg) (i:Nat) (x:Leg):g.dset (t.d_Leg l) i (Leg.ds t x)=t.d_Leg (l.set i x):=by subst hg;subst ht;rw[gI,gI];simp[G.real,List.map_set]
theorem uG {l m:List Leg} {n:Nat} {news:List (List D)} (h1:n=(t.d_Leg l).length) (h2:news=t.d_Leg m):g.dapp (t.d_Leg l) n news=t.d_Leg (l++m):=by
 subst h1;subst h2;subst hg;subst ht;simp only[gI,G.real,List.map_append,List.take_length]
theorem rA {l m:List Leg} {n:Nat} {news:List (List D)} (h1:n=(t.d_Leg l).length) (h2:news=t.d_Leg m):g.nadd n (g.dlen news)=g.dlen (t.d_Leg (l++m)):=by
 subst h1;subst h2;subst hg;subst ht;simp only[gI,G.real,List.map_append,List.length_append]
theorem mG {l m:List Leg} {n b:Nat} {news:List (List D)} (h1:n=(t.d_Leg l).length) (h2:news=t.d_Leg m) (h:(l.length+m.length)*b≤70368744177664) (hb:0<b:=by decide):0=0∧n≤(t.d_Leg l).length∧n+news.length≤maxLen∧(n+news.length)*b≤140737488355328:=
 lw h1 (sr ht l) (h2▸sr ht m) hb h
theorem y7 (l:List Leg):g.rda (t.d_Leg l)=t.r_Leg l:=by subst hg;subst ht;exact Dx l
theorem dg {l:List Leg} {i:Int} {k:Nat} (hi:i=((k:Nat):Int)) (hc:k<l.length):g.lt i (g.llen (t.r_Leg l))=true:=by subst hg;simp[G.real,oF ht];omega
theorem cH {l:List Leg} {i:Int} {k:Nat} (hi:i=((k:Nat):Int)) (hc:¬k<l.length):g.lt i (g.llen (t.r_Leg l))=false:=by subst hg;simp[G.real,oF ht];omega
theorem fG {l:List Leg} {i:Int} {k:Nat} (hi:i=((k:Nat):Int)) (hc:k<l.length) (hm:(t.r_Leg l).length≤maxLen):g.wrap .i64 (g.add i 1)=((k+1:Nat):Int):=by
 subst hg;rw[oF ht] at hm;unfold maxLen at hm;simp only[G.real];rw[i64_in]<;>omega
@[simp] theorem rK (l:List Leg):G.real.llen (TE.real.r_Leg l)=(l.length:Int):=by rw[rP];simp[G.real]
@[simp] theorem oq (l:List Leg):G.real.dlen (TE.real.d_Leg l)=l.length:=by rw[gI];simp[G.real]
@[simp] theorem FH (l:List Leg):(TE.real.r_Leg l).length=l.length:=by rw[rP];simp
theorem wn (m:List Leg) (lo n:Nat):g.dsub (t.d_Leg m) lo n=t.d_Leg (List.take n (List.drop lo m)):=by subst hg;subst ht;rw[gI,gI];simp[G.real]
end
theorem DP (x:Int):nN (I64.ds TE.real x)=true:=rfl
theorem oe (l:List Int):TE.real.r_I64 l=l.map (I64.rs TE.real):=rfl
theorem e7 (l:List Int):TE.real.d_I64 l=l.map (I64.ds TE.real):=rfl
theorem DZ (x:Int):eZ (I64.ds TE.real x)=I64.rs TE.real x:=by simp[I64.ds,I64.rs,eZ,lK]
theorem DD (x:Int):eQ (I64.ds TE.real x)=true:=by simp[I64.ds,eQ,je]
theorem yC (l:List Int):toRdss (TE.real.d_I64 l)=TE.real.r_I64 l:=by rw[e7,oe];exact jy DZ l
theorem DW (l:List Int):gm (TE.real.d_I64 l)=true:=by rw[e7];exact CG DD l
section
variable {g:G} {t:TE} (hg:g=G.real) (ht:t=TE.real)
include ht
theorem oA (l:List Int):(t.r_I64 l).length=l.length:=by subst ht;rw[oe];simp
theorem n6 (l:List Int):(t.d_I64 l).length=l.length:=by subst ht;rw[e7];simp
theorem ln:t.d_I64 []=[]:=by subst ht;rfl
theorem jz (l:List Int) (i:Nat) (x:Int):(t.d_I64 (l.set i x)).length=(t.d_I64 l).length:=by subst ht;rw[e7,e7];simp
theorem zh (l:List Int):gm (t.d_I64 l)=true:=by subst ht;exact DW l
theorem nw {l:List Int} {n:Nat} (h:n=(t.d_I64 l).length):0+n≤(t.d_I64 l).length:=by omega
include hg
theorem ec {l:List Int} {i:Nat} {x:Int} (h:l[i]?=some x):(t.r_I64 l)[i]?=some (I64.rs t x):=by subst ht;rw[oe];exact eL _ h
theorem bp {l:List Int} {i:Nat} {x:Int} (h:l[i]?=some x):(t.d_I64 l)[i]?=some (I64.ds t x):=by subst ht;rw[e7];exact eL _ h
theorem gF {l:List Int} {i:Int} {k:Nat} {x:Int} (hi:i=((k:Nat):Int)) (h:l[k]?=some x):(t.r_I64 l)[g.nat i]?=some (I64.rs t x):=by
 subst hg;subst hi;exact ec rfl ht (by simpa [G.real] using h)
theorem d6 (l:List Int):List.map (I64.ds t) l=t.d_I64 l:=by subst ht;rfl
theorem dm (l:List Int):l.length=g.dlen (t.d_I64 l):=by subst hg;subst ht;rw[e7];simp[G.real]
theorem ak (l:List Int):g.dlen (t.d_I64 l)=(t.d_I64 l).length:=by subst hg;rfl
theorem kJ (l:List Int) (i:Nat) (x:Int):g.dset (t.d_I64 l) i (I64.ds t x)=t.d_I64 (l.set i x):=by subst hg;subst ht;rw[e7,e7];simp[G.real,List.map_set]
theorem lz {l m:List Int} {n:Nat} {news:List (List D)} (h1:n=(t.d_I64 l).length) (h2:news=t.d_I64 m):g.dapp (t.d_I64 l) n news=t.d_I64 (l++m):=by
 subst h1;subst h2;subst hg;subst ht;simp only[e7,G.real,List.map_append,List.take_length]
theorem jM {l m:List Int} {n:Nat} {news:List (List D)} (h1:n=(t.d_I64 l).length) (h2:news=t.d_I64 m):g.nadd n (g.dlen news)=g.dlen (t.d_I64 (l++m)):=by
 subst h1;subst h2;subst hg;subst ht;simp only[e7,G.real,List.map_append,List.length_append]
theorem gG {l m:List Int} {n b:Nat} {news:List (List D)} (h1:n=(t.d_I64 l).length) (h2:news=t.d_I64 m) (h:(l.length+m.length)*b≤70368744177664) (hb:0<b:=by decide):0=0∧n≤(t.d_I64 l).length∧n+news.length≤maxLen∧(n+news.length)*b≤140737488355328:=
 lw h1 (n6 ht l) (h2▸n6 ht m) hb h
theorem oB {m:List Int} {n:Nat} (h:n=(t.d_I64 m).length):g.dsub (t.d_I64 m) 0 n=t.d_I64 m:=by subst h;subst hg;simp[G.real]
theorem ub (l:List Int):g.rda (t.d_I64 l)=t.r_I64 l:=by subst hg;subst ht;exact yC l
theorem ge (l:List Int):g.rda (List.map (I64.ds t) l)=t.r_I64 l:=by rw[d6 hg ht];exact ub hg ht l
theorem EL (l:List Int) (lo n:Nat):g.rd (t.d_I64 l) lo n=t.r_I64 (List.take n (List.drop lo l)):=by
 subst hg;subst ht
 rw[←yC,e7,e7]
 simp[G.real]
theorem pM {l:List Int} {n:Nat} (h:n=(t.d_I64 l).length):g.rd (t.d_I64 l) 0 n=t.r_I64 l:=by rw[EL hg ht,h,n6 ht];simp
theorem fZ {l:List Int} {i:Int} {k:Nat} (hi:i=((k:Nat):Int)) (hc:k<l.length):g.lt i (g.llen (t.r_I64 l))=true:=by subst hg;simp[G.real,oA ht];omega
theorem fg {l:List Int} {i:Int} {k:Nat} (hi:i=((k:Nat):Int)) (hc:¬k<l.length):g.lt i (g.llen (t.r_I64 l))=false:=by subst hg;simp[G.real,oA ht];omega
theorem jQ {l:List Int} {i:Int} {k:Nat} (hi:i=((k:Nat):Int)) (hc:k<l.length) (hm:(t.r_I64 l).length≤maxLen):g.wrap .i64 (g.add i 1)=((k+1:Nat):Int):=by
 subst hg;rw[oA ht] at hm;unfold maxLen at hm;simp only[G.real];rw[i64_in]<;>omega
@[simp] theorem Ba (l:List Int):G.real.llen (TE.real.r_I64 l)=(l.length:Int):=by rw[oe];simp[G.real]
@[simp] theorem bW (l:List Int):G.real.dlen (TE.real.d_I64 l)=l.length:=by rw[e7];simp[G.real]
@[simp] theorem FI (l:List Int):(TE.real.r_I64 l).length=l.length:=by rw[oe];simp
theorem xC (m:List Int):g.up (t.r_I64 m)=t.d_I64 m:=by subst hg;subst ht;rw[oe,e7];simp[G.real,I64.rs,I64.ds]
theorem vp {m:List Int} {n:Nat} (h:n=(t.d_I64 m).length):0+n≤(t.d_I64 m).length∧jn (((t.d_I64 m).drop 0).take n)=true:=by
 subst h;subst ht;refine⟨by omega,?_⟩
 simp only[List.drop_zero,List.take_length,e7];exact t5 DP m
end
theorem Da (x:Trip):nN (Trip.ds TE.real x)=true:=rfl
theorem nS (l:List Trip):TE.real.r_Trip l=l.map (Trip.rs TE.real):=rfl
theorem iR (l:List Trip):TE.real.d_Trip l=l.map (Trip.ds TE.real):=rfl
theorem Be (x:Trip):eZ (Trip.ds TE.real x)=Trip.rs TE.real x:=by simp[Trip.ds,Trip.rs,eZ,lK]
theorem BZ (l:List Trip):toRdss (TE.real.d_Trip l)=TE.real.r_Trip l:=by rw[iR,nS];exact jy Be l
section
variable {g:G} {t:TE} (hg:g=G.real) (ht:t=TE.real)
include ht
theorem lZ (l:List Trip):(t.r_Trip l).length=l.length:=by subst ht;rw[nS];simp
theorem pX (l:List Trip):(t.d_Trip l).length=l.length:=by subst ht;rw[iR];simp
theorem ma:t.d_Trip []=[]:=by subst ht;rfl
include hg
theorem xD {l:List Trip} {i:Nat} {x:Trip} (h:l[i]?=some x):(t.r_Trip l)[i]?=some (Trip.rs t x):=by subst ht;rw[nS];exact eL _ h
theorem w8 {l:List Trip} {i:Nat} {x:Trip} (h:l[i]?=some x):(t.d_Trip l)[i]?=some (Trip.ds t x):=by subst ht;rw[iR];exact eL _ h
theorem ek {l:List Trip} {i:Int} {k:Nat} {x:Trip} (hi:i=((k:Nat):Int)) (h:l[k]?=some x):(t.r_Trip l)[g.nat i]?=some (Trip.rs t x):=by
 subst hg;subst hi;exact xD rfl ht (by simpa [G.real] using h)
theorem g7 (l:List Trip):List.map (Trip.ds t) l=t.d_Trip l:=by subst ht;rfl
theorem fH (l:List Trip):l.length=g.dlen (t.d_Trip l):=by subst hg;subst ht;rw[iR];simp[G.real]
theorem aV (l:List Trip):g.dlen (t.d_Trip l)=(t.d_Trip l).length:=by subst hg;rfl
theorem lQ:g.dlen (t.d_Trip [])=0:=by subst hg;subst ht;rfl
theorem mU {l m:List Trip} {n:Nat} {news:List (List D)} (h1:n=(t.d_Trip l).length) (h2:news=t.d_Trip m):g.dapp (t.d_Trip l) n news=t.d_Trip (l++m):=by
 subst h1;subst h2;subst hg;subst ht;simp only[iR,G.real,List.map_append,List.take_length]
theorem lx {l m:List Trip} {n:Nat} {news:List (List D)} (h1:n=(t.d_Trip l).length) (h2:news=t.d_Trip m):g.nadd n (g.dlen news)=g.dlen (t.d_Trip (l++m)):=by
 subst h1;subst h2;subst hg;subst ht;simp only[iR,G.real,List.map_append,List.length_append]
theorem iY {l m:List Trip} {n b:Nat} {news:List (List D)} (h1:n=(t.d_Trip l).length) (h2:news=t.d_Trip m) (h:(l.length+m.length)*b≤70368744177664) (hb:0<b:=by decide):0=0∧n≤(t.d_Trip l).length∧n+news.length≤maxLen∧(n+news.length)*b≤140737488355328:=
 lw h1 (pX ht l) (h2▸pX ht m) hb h
theorem mE {m:List Trip} {n:Nat} (h:n=(t.d_Trip m).length):g.dsub (t.d_Trip m) 0 n=t.d_Trip m:=by subst h;subst hg;simp[G.real]
theorem Co (l:List Trip):g.rda (t.d_Trip l)=t.r_Trip l:=by subst hg;subst ht;exact BZ l
theorem gM {l:List Trip} {i:Int} {k:Nat} (hi:i=((k:Nat):Int)) (hc:k<l.length):g.lt i (g.llen (t.r_Trip l))=true:=by subst hg;simp[G.real,lZ ht];omega
theorem f8 {l:List Trip} {i:Int} {k:Nat} (hi:i=((k:Nat):Int)) (hc:¬k<l.length):g.lt i (g.llen (t.r_Trip l))=false:=by subst hg;simp[G.real,lZ ht];omega
theorem j9 {l:List Trip} {i:Int} {k:Nat} (hi:i=((k:Nat):Int)) (hc:k<l.length) (hm:(t.r_Trip l).length≤maxLen):g.wrap .i64 (g.add i 1)=((k+1:Nat):Int):=by
 subst hg;rw[lZ ht] at hm;unfold maxLen at hm;simp only[G.real];rw[i64_in]<;>omega
@[simp] theorem Al (l:List Trip):G.real.llen (TE.real.r_Trip l)=(l.length:Int):=by rw[nS];simp[G.real]
@[simp] theorem mo (l:List Trip):G.real.dlen (TE.real.d_Trip l)=l.length:=by rw[iR];simp[G.real]
@[simp] theorem Fj (l:List Trip):(TE.real.r_Trip l).length=l.length:=by rw[nS];simp
theorem ui {m:List Trip} {n:Nat} (h:n=(t.d_Trip m).length):0+n≤(t.d_Trip m).length∧jn (((t.d_Trip m).drop 0).take n)=true:=by
 subst h;subst ht;refine⟨by omega,?_⟩
 simp only[List.drop_zero,List.take_length,iR];exact t5 Da m
end
theorem ko (l:List Booking):TE.real.r_Booking l=l.map (Booking.rs TE.real):=rfl
theorem wY (l:List Booking):TE.real.d_Booking l=l.map (Booking.ds TE.real):=rfl
section
variable {g:G} {t:TE} (hg:g=G.real) (ht:t=TE.real)
include ht
theorem ji (l:List Booking):(t.r_Booking l).length=l.length:=by subst ht;rw[ko];simp
theorem rY:t.d_Booking []=[]:=by subst ht;rfl
include hg
theorem rT {l:List Booking} {i:Nat} {x:Booking} (h:l[i]?=some x):(t.r_Booking l)[i]?=some (Booking.rs t x):=by subst ht;rw[ko];exact eL _ h
theorem qM {l:List Booking} {i:Int} {k:Nat} {x:Booking} (hi:i=((k:Nat):Int)) (h:l[k]?=some x):(t.r_Booking l)[g.nat i]?=some (Booking.rs t x):=by
 subst hg;subst hi;exact rT rfl ht (by simpa [G.real] using h)
theorem oj {l:List Booking} {i:Int} {k:Nat} (hi:i=((k:Nat):Int)) (hc:k<l.length):g.lt i (g.llen (t.r_Booking l))=true:=by subst hg;simp[G.real,ji ht];omega
theorem nI {l:List Booking} {i:Int} {k:Nat} (hi:i=((k:Nat):Int)) (hc:¬k<l.length):g.lt i (g.llen (t.r_Booking l))=false:=by subst hg;simp[G.real,ji ht];omega
theorem sa {l:List Booking} {i:Int} {k:Nat} (hi:i=((k:Nat):Int)) (hc:k<l.length) (hm:(t.r_Booking l).length≤maxLen):g.wrap .i64 (g.add i 1)=((k+1:Nat):Int):=by
 subst hg;rw[ji ht] at hm;unfold maxLen at hm;simp only[G.real];rw[i64_in]<;>omega
@[simp] theorem Dr (l:List Booking):G.real.llen (TE.real.r_Booking l)=(l.length:Int):=by rw[ko];simp[G.real]
@[simp] theorem Dg (l:List Booking):G.real.dlen (TE.real.d_Booking l)=l.length:=by rw[wY];simp[G.real]
@[simp] theorem Df (l:List Booking):(TE.real.r_Booking l).length=l.length:=by rw[ko];simp
end
theorem FZ (x:ByteArray):nN (S.ds TE.real x)=true:=rfl
theorem BS (l:List ByteArray):TE.real.r_S l=l.map (S.rs TE.real):=rfl
theorem py (l:List ByteArray):TE.real.d_S l=l.map (S.ds TE.real):=rfl
theorem Gu (x:ByteArray):eZ (S.ds TE.real x)=S.rs TE.real x:=by simp[S.ds,S.rs,eZ,lK]
theorem Em (l:List ByteArray):toRdss (TE.real.d_S l)=TE.real.r_S l:=by rw[py,BS];exact jy Gu l
section
variable {g:G} {t:TE} (hg:g=G.real) (ht:t=TE.real)
include ht
theorem tO (l:List ByteArray):(t.r_S l).length=l.length:=by subst ht;rw[BS];simp
theorem lD (l:List ByteArray):(t.d_S l).length=l.length:=by subst ht;rw[py];simp
theorem yK:t.d_S []=[]:=by subst ht;rfl
theorem EY {l l2:List ByteArray} {n:Nat} (h:n=(t.d_S l).length) (h2:l2.length=l.length):n=(t.d_S l2).length:=by rw[h,lD ht,lD ht,h2]
theorem ez {l:List ByteArray} {n:Nat} (h:n=(t.d_S l).length):0+n≤(t.d_S l).length:=by omega
include hg
theorem pG {l:List ByteArray} {i:Nat} {x:ByteArray} (h:l[i]?=some x):(t.r_S l)[i]?=some (S.rs t x):=by subst ht;rw[BS];exact eL _ h
theorem ky {l:List ByteArray} {i:Nat} {x:ByteArray} (h:l[i]?=some x):(t.d_S l)[i]?=some (S.ds t x):=by subst ht;rw[py];exact eL _ h
theorem mO {l:List ByteArray} {i:Int} {k:Nat} {x:ByteArray} (hi:i=((k:Nat):Int)) (h:l[k]?=some x):(t.r_S l)[g.nat i]?=some (S.rs t x):=by
 subst hg;subst hi;exact pG rfl ht (by simpa [G.real] using h)
theorem iU (l:List ByteArray):List.map (S.ds t) l=t.d_S l:=by subst ht;rfl
theorem gw (l:List ByteArray):l.length=g.dlen (t.d_S l):=by subst hg;subst ht;rw[py];simp[G.real]
theorem ap (l:List ByteArray):g.dlen (t.d_S l)=(t.d_S l).length:=by subst hg;rfl
theorem qP:g.dlen (t.d_S [])=0:=by subst hg;subst ht;rfl
theorem iZ {l m:List ByteArray} {n:Nat} {news:List (List D)} (h1:n=(t.d_S l).length) (h2:news=t.d_S m):g.dapp (t.d_S l) n news=t.d_S (l++m):=by
 subst h1;subst h2;subst hg;subst ht;simp only[py,G.real,List.map_append,List.take_length]
theorem gf {l m:List ByteArray} {n:Nat} {news:List (List D)} (h1:n=(t.d_S l).length) (h2:news=t.d_S m):g.nadd n (g.dlen news)=g.dlen (t.d_S (l++m)):=by
 subst h1;subst h2;subst hg;subst ht;simp only[py,G.real,List.map_append,List.length_append]
theorem dw {l m:List ByteArray} {n b:Nat} {news:List (List D)} (h1:n=(t.d_S l).length) (h2:news=t.d_S m) (h:(l.length+m.length)*b≤70368744177664) (hb:0<b:=by decide):0=0∧n≤(t.d_S l).length∧n+news.length≤maxLen∧(n+news.length)*b≤140737488355328:=
 lw h1 (lD ht l) (h2▸lD ht m) hb h
theorem Ek (l:List ByteArray):g.rda (t.d_S l)=t.r_S l:=by subst hg;subst ht;exact Em l
theorem B4 (l:List ByteArray):g.rda (List.map (S.ds t) l)=t.r_S l:=by rw[iU hg ht];exact Ek hg ht l
theorem rd_S (l:List ByteArray) (lo n:Nat):g.rd (t.d_S l) lo n=t.r_S (List.take n (List.drop lo l)):=by
 subst hg;subst ht
 rw[←Em,py,py]
 simp[G.real]
theorem gV {l:List ByteArray} {n:Nat} (h:n=(t.d_S l).length):g.rd (t.d_S l) 0 n=t.r_S l:=by rw[rd_S hg ht,h,lD ht];simp
theorem iC {l:List ByteArray} {i:Int} {k:Nat} (hi:i=((k:Nat):Int)) (hc:k<l.length):g.lt i (g.llen (t.r_S l))=true:=by subst hg;simp[G.real,tO ht];omega
theorem g0 {l:List ByteArray} {i:Int} {k:Nat} (hi:i=((k:Nat):Int)) (hc:¬k<l.length):g.lt i (g.llen (t.r_S l))=false:=by subst hg;simp[G.real,tO ht];omega
theorem m9 {l:List ByteArray} {i:Int} {k:Nat} (hi:i=((k:Nat):Int)) (hc:k<l.length) (hm:(t.r_S l).length≤maxLen):g.wrap .i64 (g.add i 1)=((k+1:Nat):Int):=by
 subst hg;rw[tO ht] at hm;unfold maxLen at hm;simp only[G.real];rw[i64_in]<;>omega
@[simp] theorem llen_S (l:List ByteArray):G.real.llen (TE.real.r_S l)=(l.length:Int):=by rw[BS];simp[G.real]
@[simp] theorem gN (l:List ByteArray):G.real.dlen (TE.real.d_S l)=l.length:=by rw[py];simp[G.real]
@[simp] theorem rlenx_S (l:List ByteArray):(TE.real.r_S l).length=l.length:=by rw[BS];simp
theorem cG (m:List ByteArray) (lo n:Nat):g.dsub (t.d_S m) lo n=t.d_S (List.take n (List.drop lo m)):=by subst hg;subst ht;rw[py,py];simp[G.real]
theorem fO {m:List ByteArray} {lo n:Nat} (h:lo+n≤m.length):lo+n≤(t.d_S m).length∧jn (((t.d_S m).drop lo).take n)=true:=by
 subst ht;refine⟨by rw[lD rfl];exact h,?_⟩
 rw[py,←List.map_drop,←List.map_take];exact t5 FZ _
end
theorem yS (l:List (List Int)):TE.real.r_LI64 l=l.map (LI64.rs TE.real):=rfl
theorem iW (l:List (List Int)):TE.real.d_LI64 l=l.map (LI64.ds TE.real):=rfl
section
variable {g:G} {t:TE} (hg:g=G.real) (ht:t=TE.real)
include ht
theorem qm (l:List (List Int)):(t.d_LI64 l).length=l.length:=by subst ht;rw[iW];simp
theorem xo:t.d_LI64 []=[]:=by subst ht;rfl
include hg
theorem jY {l:List (List Int)} {i:Nat} {x:(List Int)} (h:l[i]?=some x):(t.d_LI64 l)[i]?=some (LI64.ds t x):=by subst ht;rw[iW];exact eL _ h
theorem vr (l:List (List Int)):List.map (LI64.ds t) l=t.d_LI64 l:=by subst ht;rfl
theorem sY (l:List (List Int)):l.length=g.dlen (t.d_LI64 l):=by subst hg;subst ht;rw[iW];simp[G.real]
theorem lq (l:List (List Int)):g.dlen (t.d_LI64 l)=(t.d_LI64 l).length:=by subst hg;rfl
theorem AK (l:List (List Int)) (i:Nat) (x:(List Int)):g.dset (t.d_LI64 l) i (LI64.ds t x)=t.d_LI64 (l.set i x):=by subst hg;subst ht;rw[iW,iW];simp[G.real,List.map_set]
theorem kg {l:List (List Int)} {i:Nat} {x:(List Int)} (h:l[i]?=some x):g.dset (t.d_LI64 l) i (LI64.ds t x)=t.d_LI64 l:=by
 rw[AK hg ht]
 congr 1
 apply List.ext_getElem?
 intro j
 rw[List.getElem?_set]
 split
 ·rename_i e
  subst e
  rw[h]
  split
  ·rfl
  ·rename_i hn
   rw[List.getElem?_eq_none (by omega)] at h
   cases h
 ·rfl
theorem Dd {l m:List (List Int)} {n:Nat} {news:List (List D)} (h1:n=(t.d_LI64 l).length) (h2:news=t.d_LI64 m):g.dapp (t.d_LI64 l) n news=t.d_LI64 (l++m):=by
 subst h1;subst h2;subst hg;subst ht;simp only[iW,G.real,List.map_append,List.take_length]
theorem zH {l m:List (List Int)} {n:Nat} {news:List (List D)} (h1:n=(t.d_LI64 l).length) (h2:news=t.d_LI64 m):g.nadd n (g.dlen news)=g.dlen (t.d_LI64 (l++m)):=by
 subst h1;subst h2;subst hg;subst ht;simp only[iW,G.real,List.map_append,List.length_append]
theorem uM {l m:List (List Int)} {n b:Nat} {news:List (List D)} (h1:n=(t.d_LI64 l).length) (h2:news=t.d_LI64 m) (h:(l.length+m.length)*b≤70368744177664) (hb:0<b:=by decide):0=0∧n≤(t.d_LI64 l).length∧n+news.length≤maxLen∧(n+news.length)*b≤140737488355328:=
 lw h1 (qm ht l) (h2▸qm ht m) hb h
@[simp] theorem FJ (l:List (List Int)):G.real.llen (TE.real.r_LI64 l)=(l.length:Int):=by rw[yS];simp[G.real]
@[simp] theorem rr (l:List (List Int)):G.real.dlen (TE.real.d_LI64 l)=l.length:=by rw[iW];simp[G.real]
@[simp] theorem FE (l:List (List Int)):(TE.real.r_LI64 l).length=l.length:=by rw[yS];simp
end
end Go.Vs
