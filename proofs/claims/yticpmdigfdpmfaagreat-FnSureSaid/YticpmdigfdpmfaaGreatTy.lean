/- Part of the proofs of this seat's laws: Ty. No condition. -/
import Derived.Test.YticpmdigfdpmfaaGreatVf
set_option linter.unusedVariables false
set_option linter.unusedSimpArgs false
set_option linter.unusedSectionVars false
namespace Go.Vs
open Go.IntWalk
set_option linter.unusedVariables false
set_option linter.unusedSimpArgs false
set_option linter.unusedSectionVars false
structure Trip where
 Leg:Int
 Day:Int
structure Scan where
 Thing:Int
 At:Int
 Kind:Int
 Place:ByteArray
 Trip:Trip
structure Leg where
 From:ByteArray
 To:ByteArray
 Start:Int
 Takes:Int
 Days:Int
 Room:Int
structure Network where
 Legs:List Leg
 Off:List Int
 Change:Int
structure Booking where
 Thing:Int
 Trip:Trip
 Weight:Int
structure Belief where
 Places:List ByteArray
 Rides:List Trip
structure Cur where
 b:List Int
 i:Int
 h:Int
structure Spot where
 Place:ByteArray
 At:Int
structure Know where
 n:Network
 at_:Int
 known:Bool
 place:ByteArray
 ride:Trip
 rides:Bool
 free:Bool
 from_:Spot
 to:Spot
 more:Bool
def rU8 (l:List Int):List (List R):=l.map fun x=>[.v (.int .u8 x)]
def dU8 (l:List Int):List (List D):=l.map fun x=>[.r (.v (.int .u8 x))]
def HQ (l:List Scan):List (List R):=l.map fun x=>[.v (.int .i64 x.Thing),.v (.int .i64 x.At),.v (.int .i64 x.Kind),.v (.string x.Place),.v (.int .i64 x.Trip.Leg),.v (.int .i64 x.Trip.Day)]
def Hl (l:List Scan):List (List D):=l.map fun x=>[.r (.v (.int .i64 x.Thing)),.r (.v (.int .i64 x.At)),.r (.v (.int .i64 x.Kind)),.r (.v (.string x.Place)),.r (.v (.int .i64 x.Trip.Leg)),.r (.v (.int .i64 x.Trip.Day))]
def FE (l:List Leg):List (List R):=l.map fun x=>[.v (.string x.From),.v (.string x.To),.v (.int .i64 x.Start),.v (.int .i64 x.Takes),.v (.int .i64 x.Days),.v (.int .i64 x.Room)]
def dLeg (l:List Leg):List (List D):=l.map fun x=>[.r (.v (.string x.From)),.r (.v (.string x.To)),.r (.v (.int .i64 x.Start)),.r (.v (.int .i64 x.Takes)),.r (.v (.int .i64 x.Days)),.r (.v (.int .i64 x.Room))]
def Ez (l:List Int):List (List R):=l.map fun x=>[.v (.int .i64 x)]
def H8 (l:List Int):List (List D):=l.map fun x=>[.r (.v (.int .i64 x))]
def EN (l:List Trip):List (List R):=l.map fun x=>[.v (.int .i64 x.Leg),.v (.int .i64 x.Day)]
def Ha (l:List Trip):List (List D):=l.map fun x=>[.r (.v (.int .i64 x.Leg)),.r (.v (.int .i64 x.Day))]
def vw (l:List Booking):List (List R):=l.map fun x=>[.v (.int .i64 x.Thing),.v (.int .i64 x.Trip.Leg),.v (.int .i64 x.Trip.Day),.v (.int .i64 x.Weight)]
def CG (l:List Booking):List (List D):=l.map fun x=>[.r (.v (.int .i64 x.Thing)),.r (.v (.int .i64 x.Trip.Leg)),.r (.v (.int .i64 x.Trip.Day)),.r (.v (.int .i64 x.Weight))]
def rS (l:List ByteArray):List (List R):=l.map fun x=>[.v (.string x)]
def dS (l:List ByteArray):List (List D):=l.map fun x=>[.r (.v (.string x))]
def Gd (l:List (List Int)):List (List R):=l.map fun x=>[.s 1 (Ez x)]
def Gg (l:List (List Int)):List (List D):=l.map fun x=>[.o 1 (H8 x)]
inductive Fd where
 |I_nextOf_1 (a0:Network)
 |I_freeOf_1 (a0:Network) (a1:List Trip) (a2:List Booking) (a3:Int)
def rFd:Fd→R
 |.I_nextOf_1 a0=>.fn 111 [[.s 6 (FE a0.Legs),.s 1 (Ez a0.Off),.v (.int .i64 a0.Change)]]
 |.I_freeOf_1 a0 a1 a2 a3=>.fn 126 [[.s 6 (FE a0.Legs),.s 1 (Ez a0.Off),.v (.int .i64 a0.Change)],[.s 2 (EN a1)],[.s 4 (vw a2)],[.v (.int .i64 a3)]]
structure TE where
 r_U8:List Int→List (List R)
 d_U8:List Int→List (List D)
 r_Scan:List Scan→List (List R)
 d_Scan:List Scan→List (List D)
 r_Leg:List Leg→List (List R)
 d_Leg:List Leg→List (List D)
 r_I64:List Int→List (List R)
 d_I64:List Int→List (List D)
 r_Trip:List Trip→List (List R)
 d_Trip:List Trip→List (List D)
 r_Booking:List Booking→List (List R)
 d_Booking:List Booking→List (List D)
 r_S:List ByteArray→List (List R)
 d_S:List ByteArray→List (List D)
 r_LI64:List (List Int)→List (List R)
 d_LI64:List (List Int)→List (List D)
 r_Fd:Fd→R
def TE.real:TE:=⟨rU8,dU8,HQ,Hl,FE,dLeg,Ez,H8,EN,Ha,vw,CG,rS,dS,Gd,Gg,rFd⟩
theorem lJ {t:TE} (ht:t=TE.real) (a0:Network):R.fn 111 [[.s 6 (t.r_Leg a0.Legs),.s 1 (t.r_I64 a0.Off),.v (.int .i64 a0.Change)]]=t.r_Fd (.I_nextOf_1 a0):=by subst ht;rfl
theorem su {t:TE} (ht:t=TE.real) (a0:Network) (a1:List Trip) (a2:List Booking) (a3:Int):R.fn 126 [[.s 6 (t.r_Leg a0.Legs),.s 1 (t.r_I64 a0.Off),.v (.int .i64 a0.Change)],[.s 2 (t.r_Trip a1)],[.s 4 (t.r_Booking a2)],[.v (.int .i64 a3)]]=t.r_Fd (.I_freeOf_1 a0 a1 a2 a3):=by subst ht;rfl
def Trip.rs (t:TE) (x:Trip):List R:=[.v (.int .i64 x.Leg),.v (.int .i64 x.Day)]
def Trip.ds (t:TE) (x:Trip):List D:=[.r (.v (.int .i64 x.Leg)),.r (.v (.int .i64 x.Day))]
def Scan.rs (t:TE) (x:Scan):List R:=[.v (.int .i64 x.Thing),.v (.int .i64 x.At),.v (.int .i64 x.Kind),.v (.string x.Place),.v (.int .i64 x.Trip.Leg),.v (.int .i64 x.Trip.Day)]
def Scan.ds (t:TE) (x:Scan):List D:=[.r (.v (.int .i64 x.Thing)),.r (.v (.int .i64 x.At)),.r (.v (.int .i64 x.Kind)),.r (.v (.string x.Place)),.r (.v (.int .i64 x.Trip.Leg)),.r (.v (.int .i64 x.Trip.Day))]
def Leg.rs (t:TE) (x:Leg):List R:=[.v (.string x.From),.v (.string x.To),.v (.int .i64 x.Start),.v (.int .i64 x.Takes),.v (.int .i64 x.Days),.v (.int .i64 x.Room)]
def Leg.ds (t:TE) (x:Leg):List D:=[.r (.v (.string x.From)),.r (.v (.string x.To)),.r (.v (.int .i64 x.Start)),.r (.v (.int .i64 x.Takes)),.r (.v (.int .i64 x.Days)),.r (.v (.int .i64 x.Room))]
def Network.rs (t:TE) (x:Network):List R:=[.s 6 (t.r_Leg x.Legs),.s 1 (t.r_I64 x.Off),.v (.int .i64 x.Change)]
def Network.ds (t:TE) (x:Network):List D:=[.o 6 (t.d_Leg x.Legs),.o 1 (t.d_I64 x.Off),.r (.v (.int .i64 x.Change))]
def Booking.rs (t:TE) (x:Booking):List R:=[.v (.int .i64 x.Thing),.v (.int .i64 x.Trip.Leg),.v (.int .i64 x.Trip.Day),.v (.int .i64 x.Weight)]
def Booking.ds (t:TE) (x:Booking):List D:=[.r (.v (.int .i64 x.Thing)),.r (.v (.int .i64 x.Trip.Leg)),.r (.v (.int .i64 x.Trip.Day)),.r (.v (.int .i64 x.Weight))]
def Belief.rs (t:TE) (x:Belief):List R:=[.s 1 (t.r_S x.Places),.s 2 (t.r_Trip x.Rides)]
def Belief.ds (t:TE) (x:Belief):List D:=[.o 1 (t.d_S x.Places),.o 2 (t.d_Trip x.Rides)]
def Cur.rs (t:TE) (x:Cur):List R:=[.s 1 (t.r_U8 x.b),.v (.int .i64 x.i),.v (.int .i64 x.h)]
def Cur.ds (t:TE) (x:Cur):List D:=[.r (.s 1 (t.r_U8 x.b)),.r (.v (.int .i64 x.i)),.r (.v (.int .i64 x.h))]
def Spot.rs (t:TE) (x:Spot):List R:=[.v (.string x.Place),.v (.int .i64 x.At)]
def Spot.ds (t:TE) (x:Spot):List D:=[.r (.v (.string x.Place)),.r (.v (.int .i64 x.At))]
def Know.rs (t:TE) (x:Know):List R:=[.s 6 (t.r_Leg x.n.Legs),.s 1 (t.r_I64 x.n.Off),.v (.int .i64 x.n.Change),.v (.int .i64 x.at_),.v (.bool x.known),.v (.string x.place),.v (.int .i64 x.ride.Leg),.v (.int .i64 x.ride.Day),.v (.bool x.rides),.v (.bool x.free),.v (.string x.from_.Place),.v (.int .i64 x.from_.At),.v (.string x.to.Place),.v (.int .i64 x.to.At),.v (.bool x.more)]
def Know.ds (t:TE) (x:Know):List D:=[.r (.s 6 (t.r_Leg x.n.Legs)),.r (.s 1 (t.r_I64 x.n.Off)),.r (.v (.int .i64 x.n.Change)),.r (.v (.int .i64 x.at_)),.r (.v (.bool x.known)),.r (.v (.string x.place)),.r (.v (.int .i64 x.ride.Leg)),.r (.v (.int .i64 x.ride.Day)),.r (.v (.bool x.rides)),.r (.v (.bool x.free)),.r (.v (.string x.from_.Place)),.r (.v (.int .i64 x.from_.At)),.r (.v (.string x.to.Place)),.r (.v (.int .i64 x.to.At)),.r (.v (.bool x.more))]
def U8.rs (t:TE) (x:Int):List R:=[.v (.int .u8 x)]
def U8.ds (t:TE) (x:Int):List D:=[.r (.v (.int .u8 x))]
def I64.rs (t:TE) (x:Int):List R:=[.v (.int .i64 x)]
def I64.ds (t:TE) (x:Int):List D:=[.r (.v (.int .i64 x))]
def S.rs (t:TE) (x:ByteArray):List R:=[.v (.string x)]
def S.ds (t:TE) (x:ByteArray):List D:=[.r (.v (.string x))]
def LI64.rs (t:TE) (x:List Int):List R:=[.s 1 (t.r_I64 x)]
def LI64.ds (t:TE) (x:List Int):List D:=[.o 1 (t.d_I64 x)]
theorem eN {α β:Type} (f:α→β) {l:List α} {i:Nat} {x:α} (h:l[i]?=some x):(l.map f)[i]?=some (f x):=by rw[List.getElem?_map,h];rfl
theorem j7 {α:Type} {f:α→List D} {q:α→List R} (h:∀x,e8 (f x)=q x) (l:List α):toRdss (l.map f)=l.map q:=by
 induction l with
 |nil=>rfl
 |cons x l ih=>simp only[List.map_cons,toRdss,h,ih]
theorem B6 {α:Type} {f:α→List D} (h:∀x,eO (f x)=true) (l:List α):f7 (l.map f)=true:=by
 induction l with
 |nil=>rfl
 |cons x l ih=>simp only[List.map_cons,f7,h,ih,Bool.and_self]
theorem uP {α:Type} {f:α→List D} (h:∀x,nU (f x)=true) (l:List α):jB (l.map f)=true:=by
 induction l with
 |nil=>rfl
 |cons x l ih=>simp only[List.map_cons,jB,h,ih,Bool.and_self]
theorem zw (l:List Int):TE.real.r_U8 l=l.map (U8.rs TE.real):=rfl
theorem H4 (l:List Int):TE.real.d_U8 l=l.map (U8.ds TE.real):=rfl
section
variable {g:G} {t:TE} (hg:g=G.real) (ht:t=TE.real)
include ht
theorem rZ (l:List Int):(t.r_U8 l).length=l.length:=by subst ht;rw[zw];simp
theorem Dy:t.d_U8 []=[]:=by subst ht;rfl
include hg
theorem rV {l:List Int} {i:Nat} {x:Int} (h:l[i]?=some x):(t.r_U8 l)[i]?=some (U8.rs t x):=by subst ht;rw[zw];exact eN _ h
theorem Ac {l:List Int} {i:Int} {k:Nat} {x:Int} (hi:i=((k:Nat):Int)) (h:l[k]?=some x):(t.r_U8 l)[g.nat i]?=some (U8.rs t x):=by
 subst hg;subst hi;exact rV rfl ht (by simpa [G.real] using h)
theorem vJ {l:List Int} {i:Int} {k:Nat} (hi:i=((k:Nat):Int)) (hc:k<l.length):g.lt i (g.llen (t.r_U8 l))=true:=by subst hg;simp[G.real,rZ ht];omega
theorem vr {l:List Int} {i:Int} {k:Nat} (hi:i=((k:Nat):Int)) (hc:¬k<l.length):g.lt i (g.llen (t.r_U8 l))=false:=by subst hg;simp[G.real,rZ ht];omega
theorem Bx {l:List Int} {i:Int} {k:Nat} (hi:i=((k:Nat):Int)) (hc:k<l.length) (hm:(t.r_U8 l).length≤maxLen):g.wrap .i64 (g.add i 1)=((k+1:Nat):Int):=by
 subst hg;rw[rZ ht] at hm;unfold maxLen at hm;simp only[G.real];rw[i64_in]<;>omega
@[simp] theorem Ey (l:List Int):G.real.llen (TE.real.r_U8 l)=(l.length:Int):=by rw[zw];simp[G.real]
@[simp] theorem H3 (l:List Int):G.real.dlen (TE.real.d_U8 l)=l.length:=by rw[H4];simp[G.real]
@[simp] theorem GD (l:List Int):(TE.real.r_U8 l).length=l.length:=by rw[zw];simp
end
theorem kJ (l:List Scan):TE.real.r_Scan l=l.map (Scan.rs TE.real):=rfl
theorem kT (l:List Scan):TE.real.d_Scan l=l.map (Scan.ds TE.real):=rfl
theorem BO (x:Scan):e8 (Scan.ds TE.real x)=Scan.rs TE.real x:=by simp[Scan.ds,Scan.rs,e8,mo]
theorem CN (l:List Scan):toRdss (TE.real.d_Scan l)=TE.real.r_Scan l:=by rw[kT,kJ];exact j7 BO l
section
variable {g:G} {t:TE} (hg:g=G.real) (ht:t=TE.real)
include ht
theorem mL (l:List Scan):(t.r_Scan l).length=l.length:=by subst ht;rw[kJ];simp
theorem kg (l:List Scan):(t.d_Scan l).length=l.length:=by subst ht;rw[kT];simp
theorem xC:t.d_Scan []=[]:=by subst ht;rfl
theorem ud {l l2:List Scan} {n:Nat} (h:n=(t.d_Scan l).length) (h2:l2.length=l.length):n=(t.d_Scan l2).length:=by rw[h,kg ht,kg ht,h2]
include hg
theorem kK {l:List Scan} {i:Nat} {x:Scan} (h:l[i]?=some x):(t.r_Scan l)[i]?=some (Scan.rs t x):=by subst ht;rw[kJ];exact eN _ h
theorem dD {l:List Scan} {i:Nat} {x:Scan} (h:l[i]?=some x):(t.d_Scan l)[i]?=some (Scan.ds t x):=by subst ht;rw[kT];exact eN _ h
theorem iZ {l:List Scan} {i:Int} {k:Nat} {x:Scan} (hi:i=((k:Nat):Int)) (h:l[k]?=some x):(t.r_Scan l)[g.nat i]?=some (Scan.rs t x):=by
 subst hg;subst hi;exact kK rfl ht (by simpa [G.real] using h)
theorem cG (l:List Scan):List.map (Scan.ds t) l=t.d_Scan l:=by subst ht;rfl
theorem bV (l:List Scan):l.length=g.dlen (t.d_Scan l):=by subst hg;subst ht;rw[kT];simp[G.real]
theorem ao (l:List Scan):g.dlen (t.d_Scan l)=(t.d_Scan l).length:=by subst hg;rfl
theorem ff {l m:List Scan} {n:Nat} {news:List (List D)} (h1:n=(t.d_Scan l).length) (h2:news=t.d_Scan m):g.dapp (t.d_Scan l) n news=t.d_Scan (l++m):=by
 subst h1;subst h2;subst hg;subst ht;simp only[kT,G.real,List.map_append,List.take_length]
theorem ek {l m:List Scan} {n:Nat} {news:List (List D)} (h1:n=(t.d_Scan l).length) (h2:news=t.d_Scan m):g.nadd n (g.dlen news)=g.dlen (t.d_Scan (l++m)):=by
 subst h1;subst h2;subst hg;subst ht;simp only[kT,G.real,List.map_append,List.length_append]
theorem cX {l m:List Scan} {n b:Nat} {news:List (List D)} (h1:n=(t.d_Scan l).length) (h2:news=t.d_Scan m) (h:(l.length+m.length)*b≤70368744177664) (hb:0<b:=by decide):0=0∧n≤(t.d_Scan l).length∧n+news.length≤maxLen∧(n+news.length)*b≤140737488355328:=
 lW h1 (kg ht l) (h2▸kg ht m) hb h
theorem sw (l:List Scan):g.rda (t.d_Scan l)=t.r_Scan l:=by subst hg;subst ht;exact CN l
theorem Au (l:List Scan) (a b:Int):g.rsub (t.r_Scan l) a b=t.r_Scan (List.drop (g.nat a) (List.take (g.nat b) l)):=by subst hg;subst ht;rw[kJ,kJ];simp[G.real]
theorem jh {l:List Scan} {i:Int} {k:Nat} (hi:i=((k:Nat):Int)) (hc:k<l.length):g.lt i (g.llen (t.r_Scan l))=true:=by subst hg;simp[G.real,mL ht];omega
theorem iT {l:List Scan} {i:Int} {k:Nat} (hi:i=((k:Nat):Int)) (hc:¬k<l.length):g.lt i (g.llen (t.r_Scan l))=false:=by subst hg;simp[G.real,mL ht];omega
theorem mN {l:List Scan} {i:Int} {k:Nat} (hi:i=((k:Nat):Int)) (hc:k<l.length) (hm:(t.r_Scan l).length≤maxLen):g.wrap .i64 (g.add i 1)=((k+1:Nat):Int):=by
 subst hg;rw[mL ht] at hm;unfold maxLen at hm;simp only[G.real];rw[i64_in]<;>omega
@[simp] theorem tx (l:List Scan):G.real.llen (TE.real.r_Scan l)=(l.length:Int):=by rw[kJ];simp[G.real]
@[simp] theorem dG (l:List Scan):G.real.dlen (TE.real.d_Scan l)=l.length:=by rw[kT];simp[G.real]
@[simp] theorem xB (l:List Scan):(TE.real.r_Scan l).length=l.length:=by rw[kJ];simp
end
theorem rK (l:List Leg):TE.real.r_Leg l=l.map (Leg.rs TE.real):=rfl
theorem gM (l:List Leg):TE.real.d_Leg l=l.map (Leg.ds TE.real):=rfl
theorem Es (x:Leg):e8 (Leg.ds TE.real x)=Leg.rs TE.real x:=by simp[Leg.ds,Leg.rs,e8,mo]
theorem D0 (l:List Leg):toRdss (TE.real.d_Leg l)=TE.real.r_Leg l:=by rw[gM,rK];exact j7 Es l
section
variable {g:G} {t:TE} (hg:g=G.real) (ht:t=TE.real)
include ht
theorem oO (l:List Leg):(t.r_Leg l).length=l.length:=by subst ht;rw[rK];simp
theorem tF (l:List Leg):(t.d_Leg l).length=l.length:=by subst ht;rw[gM];simp
theorem t6:t.d_Leg []=[]:=by subst ht;rfl
theorem mf (l:List Leg) (i:Nat) (x:Leg):(t.d_Leg (l.set i x)).length=(t.d_Leg l).length:=by subst ht;rw[gM,gM];simp
include hg
theorem aY {l:List Leg} {i:Nat} {x:Leg} (h:l[i]?=some x):(t.r_Leg l)[i]?=some (Leg.rs t x):=by subst ht;rw[rK];exact eN _ h
theorem fR {l:List Leg} {i:Nat} {x:Leg} (h:l[i]?=some x):(t.d_Leg l)[i]?=some (Leg.ds t x):=by subst ht;rw[gM];exact eN _ h
theorem dY {l:List Leg} {i:Int} {k:Nat} {x:Leg} (hi:i=((k:Nat):Int)) (h:l[k]?=some x):(t.r_Leg l)[g.nat i]?=some (Leg.rs t x):=by
 subst hg;subst hi;exact aY rfl ht (by simpa [G.real] using h)
theorem vp (l:List Leg):List.map (Leg.ds t) l=t.d_Leg l:=by subst ht;rfl
theorem rB (l:List Leg):l.length=g.dlen (t.d_Leg l):=by subst hg;subst ht;rw[gM];simp[G.real]
theorem a9 (l:List Leg):g.dlen (t.d_Leg l)=(t.d_Leg l).length:=by subst hg;rfl
theorem nB:g.dlen (t.d_Leg [])=0:=by subst hg;subst ht;rfl
theorem ou (l:List Leg) (i:Nat) (x:Leg):g.dset (t.d_Leg l) i (Leg.ds t x)=t.d_Leg (l.set i x):=by subst hg;subst ht;rw[gM,gM];simp[G.real,List.map_set]
theorem uX {l m:List Leg} {n:Nat} {news:List (List D)} (h1:n=(t.d_Leg l).length) (h2:news=t.d_Leg m):g.dapp (t.d_Leg l) n news=t.d_Leg (l++m):=by
 subst h1;subst h2;subst hg;subst ht;simp only[gM,G.real,List.map_append,List.take_length]
theorem rt {l m:List Leg} {n:Nat} {news:List (List D)} (h1:n=(t.d_Leg l).length) (h2:news=t.d_Leg m):g.nadd n (g.dlen news)=g.dlen (t.d_Leg (l++m)):=by
 subst h1;subst h2;subst hg;subst ht;simp only[gM,G.real,List.map_append,List.length_append]
theorem mM {l m:List Leg} {n b:Nat} {news:List (List D)} (h1:n=(t.d_Leg l).length) (h2:news=t.d_Leg m) (h:(l.length+m.length)*b≤70368744177664) (hb:0<b:=by decide):0=0∧n≤(t.d_Leg l).length∧n+news.length≤maxLen∧(n+news.length)*b≤140737488355328:=
 lW h1 (tF ht l) (h2▸tF ht m) hb h
theorem qe (l:List Leg):g.rda (t.d_Leg l)=t.r_Leg l:=by subst hg;subst ht;exact D0 l
theorem dC {l:List Leg} {i:Int} {k:Nat} (hi:i=((k:Nat):Int)) (hc:k<l.length):g.lt i (g.llen (t.r_Leg l))=true:=by subst hg;simp[G.real,oO ht];omega
theorem cP {l:List Leg} {i:Int} {k:Nat} (hi:i=((k:Nat):Int)) (hc:¬k<l.length):g.lt i (g.llen (t.r_Leg l))=false:=by subst hg;simp[G.real,oO ht];omega
theorem fI {l:List Leg} {i:Int} {k:Nat} (hi:i=((k:Nat):Int)) (hc:k<l.length) (hm:(t.r_Leg l).length≤maxLen):g.wrap .i64 (g.add i 1)=((k+1:Nat):Int):=by
 subst hg;rw[oO ht] at hm;unfold maxLen at hm;simp only[G.real];rw[i64_in]<;>omega
@[simp] theorem qT (l:List Leg):G.real.llen (TE.real.r_Leg l)=(l.length:Int):=by rw[rK];simp[G.real]
@[simp] theorem oU (l:List Leg):G.real.dlen (TE.real.d_Leg l)=l.length:=by rw[gM];simp[G.real]
@[simp] theorem Ga (l:List Leg):(TE.real.r_Leg l).length=l.length:=by rw[rK];simp
theorem wt (m:List Leg) (lo n:Nat):g.dsub (t.d_Leg m) lo n=t.d_Leg (List.take n (List.drop lo m)):=by subst hg;subst ht;rw[gM,gM];simp[G.real]
end
theorem Ec (x:Int):nU (I64.ds TE.real x)=true:=rfl
theorem o7 (l:List Int):TE.real.r_I64 l=l.map (I64.rs TE.real):=rfl
theorem e9 (l:List Int):TE.real.d_I64 l=l.map (I64.ds TE.real):=rfl
theorem Ew (x:Int):e8 (I64.ds TE.real x)=I64.rs TE.real x:=by simp[I64.ds,I64.rs,e8,mo]
theorem Ep (x:Int):eO (I64.ds TE.real x)=true:=by simp[I64.ds,eO,jg]
theorem yF (l:List Int):toRdss (TE.real.d_I64 l)=TE.real.r_I64 l:=by rw[e9,o7];exact j7 Ew l
theorem Et (l:List Int):f7 (TE.real.d_I64 l)=true:=by rw[e9];exact B6 Ep l
section
variable {g:G} {t:TE} (hg:g=G.real) (ht:t=TE.real)
include ht
theorem pc (l:List Int):(t.r_I64 l).length=l.length:=by subst ht;rw[o7];simp
theorem pf (l:List Int):(t.d_I64 l).length=l.length:=by subst ht;rw[e9];simp
theorem lS:t.d_I64 []=[]:=by subst ht;rfl
theorem jS (l:List Int) (i:Nat) (x:Int):(t.d_I64 (l.set i x)).length=(t.d_I64 l).length:=by subst ht;rw[e9,e9];simp
theorem Bg (l:List Int):f7 (t.d_I64 l)=true:=by subst ht;exact Et l
theorem n6 {l:List Int} {n:Nat} (h:n=(t.d_I64 l).length):0+n≤(t.d_I64 l).length:=by omega
include hg
theorem ei {l:List Int} {i:Nat} {x:Int} (h:l[i]?=some x):(t.r_I64 l)[i]?=some (I64.rs t x):=by subst ht;rw[o7];exact eN _ h
theorem bu {l:List Int} {i:Nat} {x:Int} (h:l[i]?=some x):(t.d_I64 l)[i]?=some (I64.ds t x):=by subst ht;rw[e9];exact eN _ h
theorem gP {l:List Int} {i:Int} {k:Nat} {x:Int} (hi:i=((k:Nat):Int)) (h:l[k]?=some x):(t.r_I64 l)[g.nat i]?=some (I64.rs t x):=by
 subst hg;subst hi;exact ei rfl ht (by simpa [G.real] using h)
theorem dB (l:List Int):List.map (I64.ds t) l=t.d_I64 l:=by subst ht;rfl
theorem cH (l:List Int):l.length=g.dlen (t.d_I64 l):=by subst hg;subst ht;rw[e9];simp[G.real]
theorem ak (l:List Int):g.dlen (t.d_I64 l)=(t.d_I64 l).length:=by subst hg;rfl
theorem lD (l:List Int) (i:Nat) (x:Int):g.dset (t.d_I64 l) i (I64.ds t x)=t.d_I64 (l.set i x):=by subst hg;subst ht;rw[e9,e9];simp[G.real,List.map_set]
theorem kw {l m:List Int} {n:Nat} {news:List (List D)} (h1:n=(t.d_I64 l).length) (h2:news=t.d_I64 m):g.dapp (t.d_I64 l) n news=t.d_I64 (l++m):=by
 subst h1;subst h2;subst hg;subst ht;simp only[e9,G.real,List.map_append,List.take_length]
theorem iG {l m:List Int} {n:Nat} {news:List (List D)} (h1:n=(t.d_I64 l).length) (h2:news=t.d_I64 m):g.nadd n (g.dlen news)=g.dlen (t.d_I64 (l++m)):=by
 subst h1;subst h2;subst hg;subst ht;simp only[e9,G.real,List.map_append,List.length_append]
theorem fw {l m:List Int} {n b:Nat} {news:List (List D)} (h1:n=(t.d_I64 l).length) (h2:news=t.d_I64 m) (h:(l.length+m.length)*b≤70368744177664) (hb:0<b:=by decide):0=0∧n≤(t.d_I64 l).length∧n+news.length≤maxLen∧(n+news.length)*b≤140737488355328:=
 lW h1 (pf ht l) (h2▸pf ht m) hb h
theorem pe {m:List Int} {n:Nat} (h:n=(t.d_I64 m).length):g.dsub (t.d_I64 m) 0 n=t.d_I64 m:=by subst h;subst hg;simp[G.real]
theorem np (l:List Int):g.rda (t.d_I64 l)=t.r_I64 l:=by subst hg;subst ht;exact yF l
theorem fV (l:List Int):g.rda (List.map (I64.ds t) l)=t.r_I64 l:=by rw[dB hg ht];exact np hg ht l
theorem E6 (l:List Int) (lo n:Nat):g.rd (t.d_I64 l) lo n=t.r_I64 (List.take n (List.drop lo l)):=by
 subst hg;subst ht
 rw[←yF,e9,e9]
 simp[G.real]
theorem qh {l:List Int} {n:Nat} (h:n=(t.d_I64 l).length):g.rd (t.d_I64 l) 0 n=t.r_I64 l:=by rw[E6 hg ht,h,pf ht];simp
theorem fX {l:List Int} {i:Int} {k:Nat} (hi:i=((k:Nat):Int)) (hc:k<l.length):g.lt i (g.llen (t.r_I64 l))=true:=by subst hg;simp[G.real,pc ht];omega
theorem fj {l:List Int} {i:Int} {k:Nat} (hi:i=((k:Nat):Int)) (hc:¬k<l.length):g.lt i (g.llen (t.r_I64 l))=false:=by subst hg;simp[G.real,pc ht];omega
theorem jU {l:List Int} {i:Int} {k:Nat} (hi:i=((k:Nat):Int)) (hc:k<l.length) (hm:(t.r_I64 l).length≤maxLen):g.wrap .i64 (g.add i 1)=((k+1:Nat):Int):=by
 subst hg;rw[pc ht] at hm;unfold maxLen at hm;simp only[G.real];rw[i64_in]<;>omega
@[simp] theorem vt (l:List Int):G.real.llen (TE.real.r_I64 l)=(l.length:Int):=by rw[o7];simp[G.real]
@[simp] theorem ca (l:List Int):G.real.dlen (TE.real.d_I64 l)=l.length:=by rw[e9];simp[G.real]
@[simp] theorem Gb (l:List Int):(TE.real.r_I64 l).length=l.length:=by rw[o7];simp
theorem yj (m:List Int):g.up (t.r_I64 m)=t.d_I64 m:=by subst hg;subst ht;rw[o7,e9];simp[G.real,I64.rs,I64.ds]
theorem xu {m:List Int} {n:Nat} (h:n=(t.d_I64 m).length):0+n≤(t.d_I64 m).length∧jB (((t.d_I64 m).drop 0).take n)=true:=by
 subst h;subst ht;refine⟨by omega,?_⟩
 simp only[List.drop_zero,List.take_length,e9];exact uP Ec m
end
theorem Cf (x:Trip):nU (Trip.ds TE.real x)=true:=rfl
theorem nO (l:List Trip):TE.real.r_Trip l=l.map (Trip.rs TE.real):=rfl
theorem gR (l:List Trip):TE.real.d_Trip l=l.map (Trip.ds TE.real):=rfl
theorem CX (x:Trip):e8 (Trip.ds TE.real x)=Trip.rs TE.real x:=by simp[Trip.ds,Trip.rs,e8,mo]
theorem wZ (l:List Trip):toRdss (TE.real.d_Trip l)=TE.real.r_Trip l:=by rw[gR,nO];exact j7 CX l
section
variable {g:G} {t:TE} (hg:g=G.real) (ht:t=TE.real)
include ht
theorem na (l:List Trip):(t.r_Trip l).length=l.length:=by subst ht;rw[nO];simp
theorem mW (l:List Trip):(t.d_Trip l).length=l.length:=by subst ht;rw[gR];simp
theorem mS:t.d_Trip []=[]:=by subst ht;rfl
theorem Ay {l:List Trip} {n:Nat} (h:n=(t.d_Trip l).length):0+n≤(t.d_Trip l).length:=by omega
include hg
theorem mG {l:List Trip} {i:Nat} {x:Trip} (h:l[i]?=some x):(t.r_Trip l)[i]?=some (Trip.rs t x):=by subst ht;rw[nO];exact eN _ h
theorem xF {l:List Trip} {i:Nat} {x:Trip} (h:l[i]?=some x):(t.d_Trip l)[i]?=some (Trip.ds t x):=by subst ht;rw[gR];exact eN _ h
theorem cW {l:List Trip} {i:Int} {k:Nat} {x:Trip} (hi:i=((k:Nat):Int)) (h:l[k]?=some x):(t.r_Trip l)[g.nat i]?=some (Trip.rs t x):=by
 subst hg;subst hi;exact mG rfl ht (by simpa [G.real] using h)
theorem hG (l:List Trip):List.map (Trip.ds t) l=t.d_Trip l:=by subst ht;rfl
theorem fG (l:List Trip):l.length=g.dlen (t.d_Trip l):=by subst hg;subst ht;rw[gR];simp[G.real]
theorem aQ (l:List Trip):g.dlen (t.d_Trip l)=(t.d_Trip l).length:=by subst hg;rfl
theorem mt:g.dlen (t.d_Trip [])=0:=by subst hg;subst ht;rfl
theorem oA {l m:List Trip} {n:Nat} {news:List (List D)} (h1:n=(t.d_Trip l).length) (h2:news=t.d_Trip m):g.dapp (t.d_Trip l) n news=t.d_Trip (l++m):=by
 subst h1;subst h2;subst hg;subst ht;simp only[gR,G.real,List.map_append,List.take_length]
theorem mc {l m:List Trip} {n:Nat} {news:List (List D)} (h1:n=(t.d_Trip l).length) (h2:news=t.d_Trip m):g.nadd n (g.dlen news)=g.dlen (t.d_Trip (l++m)):=by
 subst h1;subst h2;subst hg;subst ht;simp only[gR,G.real,List.map_append,List.length_append]
theorem iY {l m:List Trip} {n b:Nat} {news:List (List D)} (h1:n=(t.d_Trip l).length) (h2:news=t.d_Trip m) (h:(l.length+m.length)*b≤70368744177664) (hb:0<b:=by decide):0=0∧n≤(t.d_Trip l).length∧n+news.length≤maxLen∧(n+news.length)*b≤140737488355328:=
 lW h1 (mW ht l) (h2▸mW ht m) hb h
theorem mU {m:List Trip} {n:Nat} (h:n=(t.d_Trip m).length):g.dsub (t.d_Trip m) 0 n=t.d_Trip m:=by subst h;subst hg;simp[G.real]
theorem qW (l:List Trip):g.rda (t.d_Trip l)=t.r_Trip l:=by subst hg;subst ht;exact wZ l
theorem DR (l:List Trip) (lo n:Nat):g.rd (t.d_Trip l) lo n=t.r_Trip (List.take n (List.drop lo l)):=by
 subst hg;subst ht
 rw[←wZ,gR,gR]
 simp[G.real]
theorem Dp {l:List Trip} {n:Nat} (h:n=(t.d_Trip l).length):g.rd (t.d_Trip l) 0 n=t.r_Trip l:=by rw[DR hg ht,h,mW ht];simp
theorem gW {l:List Trip} {i:Int} {k:Nat} (hi:i=((k:Nat):Int)) (hc:k<l.length):g.lt i (g.llen (t.r_Trip l))=true:=by subst hg;simp[G.real,na ht];omega
theorem gk {l:List Trip} {i:Int} {k:Nat} (hi:i=((k:Nat):Int)) (hc:¬k<l.length):g.lt i (g.llen (t.r_Trip l))=false:=by subst hg;simp[G.real,na ht];omega
theorem kj {l:List Trip} {i:Int} {k:Nat} (hi:i=((k:Nat):Int)) (hc:k<l.length) (hm:(t.r_Trip l).length≤maxLen):g.wrap .i64 (g.add i 1)=((k+1:Nat):Int):=by
 subst hg;rw[na ht] at hm;unfold maxLen at hm;simp only[G.real];rw[i64_in]<;>omega
@[simp] theorem oB (l:List Trip):G.real.llen (TE.real.r_Trip l)=(l.length:Int):=by rw[nO];simp[G.real]
@[simp] theorem mJ (l:List Trip):G.real.dlen (TE.real.d_Trip l)=l.length:=by rw[gR];simp[G.real]
@[simp] theorem FZ (l:List Trip):(TE.real.r_Trip l).length=l.length:=by rw[nO];simp
theorem uV {m:List Trip} {n:Nat} (h:n=(t.d_Trip m).length):0+n≤(t.d_Trip m).length∧jB (((t.d_Trip m).drop 0).take n)=true:=by
 subst h;subst ht;refine⟨by omega,?_⟩
 simp only[List.drop_zero,List.take_length,gR];exact uP Cf m
end
theorem ku (l:List Booking):TE.real.r_Booking l=l.map (Booking.rs TE.real):=rfl
theorem yA (l:List Booking):TE.real.d_Booking l=l.map (Booking.ds TE.real):=rfl
section
variable {g:G} {t:TE} (hg:g=G.real) (ht:t=TE.real)
include ht
theorem jr (l:List Booking):(t.r_Booking l).length=l.length:=by subst ht;rw[ku];simp
theorem sQ:t.d_Booking []=[]:=by subst ht;rfl
include hg
theorem sV {l:List Booking} {i:Nat} {x:Booking} (h:l[i]?=some x):(t.r_Booking l)[i]?=some (Booking.rs t x):=by subst ht;rw[ku];exact eN _ h
theorem sK {l:List Booking} {i:Int} {k:Nat} {x:Booking} (hi:i=((k:Nat):Int)) (h:l[k]?=some x):(t.r_Booking l)[g.nat i]?=some (Booking.rs t x):=by
 subst hg;subst hi;exact sV rfl ht (by simpa [G.real] using h)
theorem oE {l:List Booking} {i:Int} {k:Nat} (hi:i=((k:Nat):Int)) (hc:k<l.length):g.lt i (g.llen (t.r_Booking l))=true:=by subst hg;simp[G.real,jr ht];omega
theorem nq {l:List Booking} {i:Int} {k:Nat} (hi:i=((k:Nat):Int)) (hc:¬k<l.length):g.lt i (g.llen (t.r_Booking l))=false:=by subst hg;simp[G.real,jr ht];omega
theorem sL {l:List Booking} {i:Int} {k:Nat} (hi:i=((k:Nat):Int)) (hc:k<l.length) (hm:(t.r_Booking l).length≤maxLen):g.wrap .i64 (g.add i 1)=((k+1:Nat):Int):=by
 subst hg;rw[jr ht] at hm;unfold maxLen at hm;simp only[G.real];rw[i64_in]<;>omega
@[simp] theorem D5 (l:List Booking):G.real.llen (TE.real.r_Booking l)=(l.length:Int):=by rw[ku];simp[G.real]
@[simp] theorem DD (l:List Booking):G.real.dlen (TE.real.d_Booking l)=l.length:=by rw[yA];simp[G.real]
@[simp] theorem DC (l:List Booking):(TE.real.r_Booking l).length=l.length:=by rw[ku];simp
end
theorem Hn (x:ByteArray):nU (S.ds TE.real x)=true:=rfl
theorem Du (l:List ByteArray):TE.real.r_S l=l.map (S.rs TE.real):=rfl
theorem pZ (l:List ByteArray):TE.real.d_S l=l.map (S.ds TE.real):=rfl
theorem Gz (x:ByteArray):e8 (S.ds TE.real x)=S.rs TE.real x:=by simp[S.ds,S.rs,e8,mo]
theorem EQ (l:List ByteArray):toRdss (TE.real.d_S l)=TE.real.r_S l:=by rw[pZ,Du];exact j7 Gz l
section
variable {g:G} {t:TE} (hg:g=G.real) (ht:t=TE.real)
include ht
theorem uN (l:List ByteArray):(t.r_S l).length=l.length:=by subst ht;rw[Du];simp
theorem lX (l:List ByteArray):(t.d_S l).length=l.length:=by subst ht;rw[pZ];simp
theorem yX:t.d_S []=[]:=by subst ht;rfl
theorem FG {l l2:List ByteArray} {n:Nat} (h:n=(t.d_S l).length) (h2:l2.length=l.length):n=(t.d_S l2).length:=by rw[h,lX ht,lX ht,h2]
theorem en {l:List ByteArray} {n:Nat} (h:n=(t.d_S l).length):0+n≤(t.d_S l).length:=by omega
include hg
theorem qn {l:List ByteArray} {i:Nat} {x:ByteArray} (h:l[i]?=some x):(t.r_S l)[i]?=some (S.rs t x):=by subst ht;rw[Du];exact eN _ h
theorem kb {l:List ByteArray} {i:Nat} {x:ByteArray} (h:l[i]?=some x):(t.d_S l)[i]?=some (S.ds t x):=by subst ht;rw[pZ];exact eN _ h
theorem so {l:List ByteArray} {i:Int} {k:Nat} {x:ByteArray} (hi:i=((k:Nat):Int)) (h:l[k]?=some x):(t.r_S l)[g.nat i]?=some (S.rs t x):=by
 subst hg;subst hi;exact qn rfl ht (by simpa [G.real] using h)
theorem i5 (l:List ByteArray):List.map (S.ds t) l=t.d_S l:=by subst ht;rfl
theorem gQ (l:List ByteArray):l.length=g.dlen (t.d_S l):=by subst hg;subst ht;rw[pZ];simp[G.real]
theorem ap (l:List ByteArray):g.dlen (t.d_S l)=(t.d_S l).length:=by subst hg;rfl
theorem rl:g.dlen (t.d_S [])=0:=by subst hg;subst ht;rfl
theorem i8 {l m:List ByteArray} {n:Nat} {news:List (List D)} (h1:n=(t.d_S l).length) (h2:news=t.d_S m):g.dapp (t.d_S l) n news=t.d_S (l++m):=by
 subst h1;subst h2;subst hg;subst ht;simp only[pZ,G.real,List.map_append,List.take_length]
theorem gc {l m:List ByteArray} {n:Nat} {news:List (List D)} (h1:n=(t.d_S l).length) (h2:news=t.d_S m):g.nadd n (g.dlen news)=g.dlen (t.d_S (l++m)):=by
 subst h1;subst h2;subst hg;subst ht;simp only[pZ,G.real,List.map_append,List.length_append]
theorem dz {l m:List ByteArray} {n b:Nat} {news:List (List D)} (h1:n=(t.d_S l).length) (h2:news=t.d_S m) (h:(l.length+m.length)*b≤70368744177664) (hb:0<b:=by decide):0=0∧n≤(t.d_S l).length∧n+news.length≤maxLen∧(n+news.length)*b≤140737488355328:=
 lW h1 (lX ht l) (h2▸lX ht m) hb h
theorem Dx (l:List ByteArray):g.rda (t.d_S l)=t.r_S l:=by subst hg;subst ht;exact EQ l
theorem Ci (l:List ByteArray):g.rda (List.map (S.ds t) l)=t.r_S l:=by rw[i5 hg ht];exact Dx hg ht l
theorem rd_S (l:List ByteArray) (lo n:Nat):g.rd (t.d_S l) lo n=t.r_S (List.take n (List.drop lo l)):=by
 subst hg;subst ht
 rw[←EQ,pZ,pZ]
 simp[G.real]
theorem gp {l:List ByteArray} {n:Nat} (h:n=(t.d_S l).length):g.rd (t.d_S l) 0 n=t.r_S l:=by rw[rd_S hg ht,h,lX ht];simp
theorem kn {l:List ByteArray} {i:Int} {k:Nat} (hi:i=((k:Nat):Int)) (hc:k<l.length):g.lt i (g.llen (t.r_S l))=true:=by subst hg;simp[G.real,uN ht];omega
theorem i7 {l:List ByteArray} {i:Int} {k:Nat} (hi:i=((k:Nat):Int)) (hc:¬k<l.length):g.lt i (g.llen (t.r_S l))=false:=by subst hg;simp[G.real,uN ht];omega
theorem ql {l:List ByteArray} {i:Int} {k:Nat} (hi:i=((k:Nat):Int)) (hc:k<l.length) (hm:(t.r_S l).length≤maxLen):g.wrap .i64 (g.add i 1)=((k+1:Nat):Int):=by
 subst hg;rw[uN ht] at hm;unfold maxLen at hm;simp only[G.real];rw[i64_in]<;>omega
@[simp] theorem Fa (l:List ByteArray):G.real.llen (TE.real.r_S l)=(l.length:Int):=by rw[Du];simp[G.real]
@[simp] theorem gT (l:List ByteArray):G.real.dlen (TE.real.d_S l)=l.length:=by rw[pZ];simp[G.real]
@[simp] theorem rlenx_S (l:List ByteArray):(TE.real.r_S l).length=l.length:=by rw[Du];simp
theorem cM (m:List ByteArray) (lo n:Nat):g.dsub (t.d_S m) lo n=t.d_S (List.take n (List.drop lo m)):=by subst hg;subst ht;rw[pZ,pZ];simp[G.real]
theorem fQ {m:List ByteArray} {lo n:Nat} (h:lo+n≤m.length):lo+n≤(t.d_S m).length∧jB (((t.d_S m).drop lo).take n)=true:=by
 subst ht;refine⟨by rw[lX rfl];exact h,?_⟩
 rw[pZ,←List.map_drop,←List.map_take];exact uP Hn _
end
theorem zq (l:List (List Int)):TE.real.r_LI64 l=l.map (LI64.rs TE.real):=rfl
theorem iW (l:List (List Int)):TE.real.d_LI64 l=l.map (LI64.ds TE.real):=rfl
section
variable {g:G} {t:TE} (hg:g=G.real) (ht:t=TE.real)
include ht
theorem se (l:List (List Int)):(t.d_LI64 l).length=l.length:=by subst ht;rw[iW];simp
theorem ye:t.d_LI64 []=[]:=by subst ht;rfl
include hg
theorem kR {l:List (List Int)} {i:Nat} {x:(List Int)} (h:l[i]?=some x):(t.d_LI64 l)[i]?=some (LI64.ds t x):=by subst ht;rw[iW];exact eN _ h
theorem vz (l:List (List Int)):List.map (LI64.ds t) l=t.d_LI64 l:=by subst ht;rfl
theorem tS (l:List (List Int)):l.length=g.dlen (t.d_LI64 l):=by subst hg;subst ht;rw[iW];simp[G.real]
theorem mb (l:List (List Int)):g.dlen (t.d_LI64 l)=(t.d_LI64 l).length:=by subst hg;rfl
theorem AB (l:List (List Int)) (i:Nat) (x:(List Int)):g.dset (t.d_LI64 l) i (LI64.ds t x)=t.d_LI64 (l.set i x):=by subst hg;subst ht;rw[iW,iW];simp[G.real,List.map_set]
theorem kE {l:List (List Int)} {i:Nat} {x:(List Int)} (h:l[i]?=some x):g.dset (t.d_LI64 l) i (LI64.ds t x)=t.d_LI64 l:=by
 rw[AB hg ht]
 congr 1
 apply List.ext_getElem?
 intro j
 rw[List.getElem?_set]
 split
 ·rename_i e
  subst e
  rw[h]
  split
  ·rfl
  ·rename_i hn
   rw[List.getElem?_eq_none (by omega)] at h
   cases h
 ·rfl
theorem BD {l m:List (List Int)} {n:Nat} {news:List (List D)} (h1:n=(t.d_LI64 l).length) (h2:news=t.d_LI64 m):g.dapp (t.d_LI64 l) n news=t.d_LI64 (l++m):=by
 subst h1;subst h2;subst hg;subst ht;simp only[iW,G.real,List.map_append,List.take_length]
theorem zR {l m:List (List Int)} {n:Nat} {news:List (List D)} (h1:n=(t.d_LI64 l).length) (h2:news=t.d_LI64 m):g.nadd n (g.dlen news)=g.dlen (t.d_LI64 (l++m)):=by
 subst h1;subst h2;subst hg;subst ht;simp only[iW,G.real,List.map_append,List.length_append]
theorem wc {l m:List (List Int)} {n b:Nat} {news:List (List D)} (h1:n=(t.d_LI64 l).length) (h2:news=t.d_LI64 m) (h:(l.length+m.length)*b≤70368744177664) (hb:0<b:=by decide):0=0∧n≤(t.d_LI64 l).length∧n+news.length≤maxLen∧(n+news.length)*b≤140737488355328:=
 lW h1 (se ht l) (h2▸se ht m) hb h
@[simp] theorem Gc (l:List (List Int)):G.real.llen (TE.real.r_LI64 l)=(l.length:Int):=by rw[zq];simp[G.real]
@[simp] theorem rQ (l:List (List Int)):G.real.dlen (TE.real.d_LI64 l)=l.length:=by rw[iW];simp[G.real]
@[simp] theorem FI (l:List (List Int)):(TE.real.r_LI64 l).length=l.length:=by rw[zq];simp
end
end Go.Vs
