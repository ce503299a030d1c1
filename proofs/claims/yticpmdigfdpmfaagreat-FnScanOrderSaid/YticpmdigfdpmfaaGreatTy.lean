/- Part of the proofs of this seat's laws: Ty. No condition. -/
import Derived.Test.YticpmdigfdpmfaaGreatVf
set_option linter.unusedVariables false
set_option linter.unusedSimpArgs false
set_option linter.unusedSectionVars false
namespace Go.Vs
open Go.IntWalk
set_option linter.unusedVariables false
set_option linter.unusedSimpArgs false
set_option linter.unusedSectionVars false
structure Trip where
 Leg:Int
 Day:Int
structure Scan where
 Thing:Int
 At:Int
 Kind:Int
 Place:ByteArray
 Trip:Trip
structure Leg where
 From:ByteArray
 To:ByteArray
 Start:Int
 Takes:Int
 Days:Int
 Room:Int
structure Network where
 Legs:List Leg
 Off:List Int
 Change:Int
structure Booking where
 Thing:Int
 Trip:Trip
 Weight:Int
structure Belief where
 Places:List ByteArray
 Rides:List Trip
structure Cur where
 b:List Int
 i:Int
 h:Int
structure Spot where
 Place:ByteArray
 At:Int
structure Know where
 n:Network
 at_:Int
 known:Bool
 place:ByteArray
 ride:Trip
 rides:Bool
 free:Bool
 from_:Spot
 to:Spot
 more:Bool
def rU8 (l:List Int):List (List R):=l.map fun x=>[.v (.int .u8 x)]
def dU8 (l:List Int):List (List D):=l.map fun x=>[.r (.v (.int .u8 x))]
def GJ (l:List Scan):List (List R):=l.map fun x=>[.v (.int .i64 x.Thing),.v (.int .i64 x.At),.v (.int .i64 x.Kind),.v (.string x.Place),.v (.int .i64 x.Trip.Leg),.v (.int .i64 x.Trip.Day)]
def Gm (l:List Scan):List (List D):=l.map fun x=>[.r (.v (.int .i64 x.Thing)),.r (.v (.int .i64 x.At)),.r (.v (.int .i64 x.Kind)),.r (.v (.string x.Place)),.r (.v (.int .i64 x.Trip.Leg)),.r (.v (.int .i64 x.Trip.Day))]
def FSq (l:List Leg):List (List R):=l.map fun x=>[.v (.string x.From),.v (.string x.To),.v (.int .i64 x.Start),.v (.int .i64 x.Takes),.v (.int .i64 x.Days),.v (.int .i64 x.Room)]
def dLeg (l:List Leg):List (List D):=l.map fun x=>[.r (.v (.string x.From)),.r (.v (.string x.To)),.r (.v (.int .i64 x.Start)),.r (.v (.int .i64 x.Takes)),.r (.v (.int .i64 x.Days)),.r (.v (.int .i64 x.Room))]
def D3 (l:List Int):List (List R):=l.map fun x=>[.v (.int .i64 x)]
def Ge (l:List Int):List (List D):=l.map fun x=>[.r (.v (.int .i64 x))]
def EL (l:List Trip):List (List R):=l.map fun x=>[.v (.int .i64 x.Leg),.v (.int .i64 x.Day)]
def GU (l:List Trip):List (List D):=l.map fun x=>[.r (.v (.int .i64 x.Leg)),.r (.v (.int .i64 x.Day))]
def wb (l:List Booking):List (List R):=l.map fun x=>[.v (.int .i64 x.Thing),.v (.int .i64 x.Trip.Leg),.v (.int .i64 x.Trip.Day),.v (.int .i64 x.Weight)]
def Dz (l:List Booking):List (List D):=l.map fun x=>[.r (.v (.int .i64 x.Thing)),.r (.v (.int .i64 x.Trip.Leg)),.r (.v (.int .i64 x.Trip.Day)),.r (.v (.int .i64 x.Weight))]
def rS (l:List ByteArray):List (List R):=l.map fun x=>[.v (.string x)]
def dS (l:List ByteArray):List (List D):=l.map fun x=>[.r (.v (.string x))]
def F5 (l:List (List Int)):List (List R):=l.map fun x=>[.s 1 (D3 x)]
def Ig (l:List (List Int)):List (List D):=l.map fun x=>[.o 1 (Ge x)]
inductive Fd where
 |I_nextOf_1 (a0:Network)
 |I_freeOf_1 (a0:Network) (a1:List Trip) (a2:List Booking) (a3:Int)
def rFd:Fd→R
 |.I_nextOf_1 a0=>.fn 111 [[.s 6 (FSq a0.Legs),.s 1 (D3 a0.Off),.v (.int .i64 a0.Change)]]
 |.I_freeOf_1 a0 a1 a2 a3=>.fn 126 [[.s 6 (FSq a0.Legs),.s 1 (D3 a0.Off),.v (.int .i64 a0.Change)],[.s 2 (EL a1)],[.s 4 (wb a2)],[.v (.int .i64 a3)]]
structure TE where
 r_U8:List Int→List (List R)
 d_U8:List Int→List (List D)
 r_Scan:List Scan→List (List R)
 d_Scan:List Scan→List (List D)
 r_Leg:List Leg→List (List R)
 d_Leg:List Leg→List (List D)
 r_I64:List Int→List (List R)
 d_I64:List Int→List (List D)
 r_Trip:List Trip→List (List R)
 d_Trip:List Trip→List (List D)
 r_Booking:List Booking→List (List R)
 d_Booking:List Booking→List (List D)
 r_S:List ByteArray→List (List R)
 d_S:List ByteArray→List (List D)
 r_LI64:List (List Int)→List (List R)
 d_LI64:List (List Int)→List (List D)
 r_Fd:Fd→R
def TE.real:TE:=⟨rU8,dU8,GJ,Gm,FSq,dLeg,D3,Ge,EL,GU,wb,Dz,rS,dS,F5,Ig,rFd⟩
theorem lC {t:TE} (ht:t=TE.real) (a0:Network):R.fn 111 [[.s 6 (t.r_Leg a0.Legs),.s 1 (t.r_I64 a0.Off),.v (.int .i64 a0.Change)]]=t.r_Fd (.I_nextOf_1 a0):=by subst ht;rfl
theorem qH {t:TE} (ht:t=TE.real) (a0:Network) (a1:List Trip) (a2:List Booking) (a3:Int):R.fn 126 [[.s 6 (t.r_Leg a0.Legs),.s 1 (t.r_I64 a0.Off),.v (.int .i64 a0.Change)],[.s 2 (t.r_Trip a1)],[.s 4 (t.r_Booking a2)],[.v (.int .i64 a3)]]=t.r_Fd (.I_freeOf_1 a0 a1 a2 a3):=by subst ht;rfl
def Trip.rs (t:TE) (x:Trip):List R:=[.v (.int .i64 x.Leg),.v (.int .i64 x.Day)]
def Trip.ds (t:TE) (x:Trip):List D:=[.r (.v (.int .i64 x.Leg)),.r (.v (.int .i64 x.Day))]
def Scan.rs (t:TE) (x:Scan):List R:=[.v (.int .i64 x.Thing),.v (.int .i64 x.At),.v (.int .i64 x.Kind),.v (.string x.Place),.v (.int .i64 x.Trip.Leg),.v (.int .i64 x.Trip.Day)]
def Scan.ds (t:TE) (x:Scan):List D:=[.r (.v (.int .i64 x.Thing)),.r (.v (.int .i64 x.At)),.r (.v (.int .i64 x.Kind)),.r (.v (.string x.Place)),.r (.v (.int .i64 x.Trip.Leg)),.r (.v (.int .i64 x.Trip.Day))]
def Leg.rs (t:TE) (x:Leg):List R:=[.v (.string x.From),.v (.string x.To),.v (.int .i64 x.Start),.v (.int .i64 x.Takes),.v (.int .i64 x.Days),.v (.int .i64 x.Room)]
def Leg.ds (t:TE) (x:Leg):List D:=[.r (.v (.string x.From)),.r (.v (.string x.To)),.r (.v (.int .i64 x.Start)),.r (.v (.int .i64 x.Takes)),.r (.v (.int .i64 x.Days)),.r (.v (.int .i64 x.Room))]
def Network.rs (t:TE) (x:Network):List R:=[.s 6 (t.r_Leg x.Legs),.s 1 (t.r_I64 x.Off),.v (.int .i64 x.Change)]
def Network.ds (t:TE) (x:Network):List D:=[.o 6 (t.d_Leg x.Legs),.o 1 (t.d_I64 x.Off),.r (.v (.int .i64 x.Change))]
def Booking.rs (t:TE) (x:Booking):List R:=[.v (.int .i64 x.Thing),.v (.int .i64 x.Trip.Leg),.v (.int .i64 x.Trip.Day),.v (.int .i64 x.Weight)]
def Booking.ds (t:TE) (x:Booking):List D:=[.r (.v (.int .i64 x.Thing)),.r (.v (.int .i64 x.Trip.Leg)),.r (.v (.int .i64 x.Trip.Day)),.r (.v (.int .i64 x.Weight))]
def Belief.rs (t:TE) (x:Belief):List R:=[.s 1 (t.r_S x.Places),.s 2 (t.r_Trip x.Rides)]
def Belief.ds (t:TE) (x:Belief):List D:=[.o 1 (t.d_S x.Places),.o 2 (t.d_Trip x.Rides)]
def Cur.rs (t:TE) (x:Cur):List R:=[.s 1 (t.r_U8 x.b),.v (.int .i64 x.i),.v (.int .i64 x.h)]
def Cur.ds (t:TE) (x:Cur):List D:=[.r (.s 1 (t.r_U8 x.b)),.r (.v (.int .i64 x.i)),.r (.v (.int .i64 x.h))]
def Spot.rs (t:TE) (x:Spot):List R:=[.v (.string x.Place),.v (.int .i64 x.At)]
def Spot.ds (t:TE) (x:Spot):List D:=[.r (.v (.string x.Place)),.r (.v (.int .i64 x.At))]
def Know.rs (t:TE) (x:Know):List R:=[.s 6 (t.r_Leg x.n.Legs),.s 1 (t.r_I64 x.n.Off),.v (.int .i64 x.n.Change),.v (.int .i64 x.at_),.v (.bool x.known),.v (.string x.place),.v (.int .i64 x.ride.Leg),.v (.int .i64 x.ride.Day),.v (.bool x.rides),.v (.bool x.free),.v (.string x.from_.Place),.v (.int .i64 x.from_.At),.v (.string x.to.Place),.v (.int .i64 x.to.At),.v (.bool x.more)]
def Know.ds (t:TE) (x:Know):List D:=[.r (.s 6 (t.r_Leg x.n.Legs)),.r (.s 1 (t.r_I64 x.n.Off)),.r (.v (.int .i64 x.n.Change)),.r (.v (.int .i64 x.at_)),.r (.v (.bool x.known)),.r (.v (.string x.place)),.r (.v (.int .i64 x.ride.Leg)),.r (.v (.int .i64 x.ride.Day)),.r (.v (.bool x.rides)),.r (.v (.bool x.free)),.r (.v (.string x.from_.Place)),.r (.v (.int .i64 x.from_.At)),.r (.v (.string x.to.Place)),.r (.v (.int .i64 x.to.At)),.r (.v (.bool x.more))]
def U8.rs (t:TE) (x:Int):List R:=[.v (.int .u8 x)]
def U8.ds (t:TE) (x:Int):List D:=[.r (.v (.int .u8 x))]
def I64.rs (t:TE) (x:Int):List R:=[.v (.int .i64 x)]
def I64.ds (t:TE) (x:Int):List D:=[.r (.v (.int .i64 x))]
def S.rs (t:TE) (x:ByteArray):List R:=[.v (.string x)]
def S.ds (t:TE) (x:ByteArray):List D:=[.r (.v (.string x))]
def LI64.rs (t:TE) (x:List Int):List R:=[.s 1 (t.r_I64 x)]
def LI64.ds (t:TE) (x:List Int):List D:=[.o 1 (t.d_I64 x)]
theorem fK {α β:Type} (f:α→β) {l:List α} {i:Nat} {x:α} (h:l[i]?=some x):(l.map f)[i]?=some (f x):=by rw[List.getElem?_map,h];rfl
theorem kg {α:Type} {f:α→List D} {q:α→List R} (h:∀x,fq (f x)=q x) (l:List α):toRdss (l.map f)=l.map q:=by
 induction l with
 |nil=>rfl
 |cons x l ih=>simp only[List.map_cons,toRdss,h,ih]
theorem xh {α:Type} {f:α→List D} (h:∀x,dL (f x)=true) (l:List α):dX (l.map f)=true:=by
 induction l with
 |nil=>rfl
 |cons x l ih=>simp only[List.map_cons,dX,h,ih,Bool.and_self]
theorem nB {α:Type} {f:α→List D} (h:∀x,mE (f x)=true) (l:List α):iw (l.map f)=true:=by
 induction l with
 |nil=>rfl
 |cons x l ih=>simp only[List.map_cons,iw,h,ih,Bool.and_self]
theorem Ac (l:List Int):TE.real.r_U8 l=l.map (U8.rs TE.real):=rfl
theorem GN (l:List Int):TE.real.d_U8 l=l.map (U8.ds TE.real):=rfl
section
variable {g:G} {t:TE} (hg:g=G.real) (ht:t=TE.real)
include ht
theorem sd (l:List Int):(t.r_U8 l).length=l.length:=by subst ht;rw[Ac];simp
include hg
theorem w7 {l:List Int} {i:Nat} {x:Int} (h:l[i]?=some x):(t.r_U8 l)[i]?=some (U8.rs t x):=by subst ht;rw[Ac];exact fK _ h
theorem BH {l:List Int} {i:Int} {k:Nat} {x:Int} (hi:i=((k:Nat):Int)) (h:l[k]?=some x):(t.r_U8 l)[g.nat i]?=some (U8.rs t x):=by
 subst hg;subst hi;exact w7 rfl ht (by simpa [G.real] using h)
theorem w9 {l:List Int} {i:Int} {k:Nat} (hi:i=((k:Nat):Int)) (hc:k<l.length):g.lt i (g.llen (t.r_U8 l))=true:=by subst hg;simp[G.real,sd ht];omega
theorem ve {l:List Int} {i:Int} {k:Nat} (hi:i=((k:Nat):Int)) (hc:¬k<l.length):g.lt i (g.llen (t.r_U8 l))=false:=by subst hg;simp[G.real,sd ht];omega
theorem DD {l:List Int} {i:Int} {k:Nat} (hi:i=((k:Nat):Int)) (hc:k<l.length) (hm:(t.r_U8 l).length≤maxLen):g.wrap .i64 (g.add i 1)=((k+1:Nat):Int):=by
 subst hg;rw[sd ht] at hm;unfold maxLen at hm;simp only[G.real];rw[i64_in]<;>omega
@[simp] theorem DT (l:List Int):G.real.llen (TE.real.r_U8 l)=(l.length:Int):=by rw[Ac];simp[G.real]
@[simp] theorem Gj (l:List Int):G.real.dlen (TE.real.d_U8 l)=l.length:=by rw[GN];simp[G.real]
@[simp] theorem GT (l:List Int):(TE.real.r_U8 l).length=l.length:=by rw[Ac];simp
end
theorem wG (x:Scan):mE (Scan.ds TE.real x)=true:=rfl
theorem jB (l:List Scan):TE.real.r_Scan l=l.map (Scan.rs TE.real):=rfl
theorem ef (l:List Scan):TE.real.d_Scan l=l.map (Scan.ds TE.real):=rfl
theorem B4 (x:Scan):fq (Scan.ds TE.real x)=Scan.rs TE.real x:=by simp[Scan.ds,Scan.rs,fq,mC]
theorem Dn (x:Scan):dL (Scan.ds TE.real x)=true:=by simp[Scan.ds,dL,gN]
theorem ya (l:List Scan):toRdss (TE.real.d_Scan l)=TE.real.r_Scan l:=by rw[ef,jB];exact kg B4 l
theorem De (l:List Scan):dX (TE.real.d_Scan l)=true:=by rw[ef];exact xh Dn l
section
variable {g:G} {t:TE} (hg:g=G.real) (ht:t=TE.real)
include ht
theorem m7 (l:List Scan):(t.r_Scan l).length=l.length:=by subst ht;rw[jB];simp
theorem gJ (l:List Scan):(t.d_Scan l).length=l.length:=by subst ht;rw[ef];simp
theorem tt {l l2:List Scan} {n:Nat} (h:n=(t.d_Scan l).length) (h2:l2.length=l.length):n=(t.d_Scan l2).length:=by rw[h,gJ ht,gJ ht,h2]
theorem yJ (l:List Scan):dX (t.d_Scan l)=true:=by subst ht;exact De l
theorem oI {l:List Scan} {n:Nat} (h:n=(t.d_Scan l).length):0+n≤(t.d_Scan l).length:=by omega
include hg
theorem eB {l:List Scan} {i:Nat} {x:Scan} (h:l[i]?=some x):(t.r_Scan l)[i]?=some (Scan.rs t x):=by subst ht;rw[jB];exact fK _ h
theorem aO {l:List Scan} {i:Nat} {x:Scan} (h:l[i]?=some x):(t.d_Scan l)[i]?=some (Scan.ds t x):=by subst ht;rw[ef];exact fK _ h
theorem eV {l:List Scan} {i:Int} {k:Nat} {x:Scan} (hi:i=((k:Nat):Int)) (h:l[k]?=some x):(t.r_Scan l)[g.nat i]?=some (Scan.rs t x):=by
 subst hg;subst hi;exact eB rfl ht (by simpa [G.real] using h)
theorem aG (l:List Scan):List.map (Scan.ds t) l=t.d_Scan l:=by subst ht;rfl
theorem ax (l:List Scan):l.length=g.dlen (t.d_Scan l):=by subst hg;subst ht;rw[ef];simp[G.real]
theorem ac (l:List Scan):g.dlen (t.d_Scan l)=(t.d_Scan l).length:=by subst hg;rfl
theorem aR {l m:List Scan} {n:Nat} {news:List (List D)} (h1:n=(t.d_Scan l).length) (h2:news=t.d_Scan m):g.dapp (t.d_Scan l) n news=t.d_Scan (l++m):=by
 subst h1;subst h2;subst hg;subst ht;simp only[ef,G.real,List.map_append,List.take_length]
theorem aJ {l m:List Scan} {n:Nat} {news:List (List D)} (h1:n=(t.d_Scan l).length) (h2:news=t.d_Scan m):g.nadd n (g.dlen news)=g.dlen (t.d_Scan (l++m)):=by
 subst h1;subst h2;subst hg;subst ht;simp only[ef,G.real,List.map_append,List.length_append]
theorem au {l m:List Scan} {n b:Nat} {news:List (List D)} (h1:n=(t.d_Scan l).length) (h2:news=t.d_Scan m) (h:(l.length+m.length)*b≤70368744177664) (hb:0<b:=by decide):0=0∧n≤(t.d_Scan l).length∧n+news.length≤maxLen∧(n+news.length)*b≤140737488355328:=
 oG h1 (gJ ht l) (h2▸gJ ht m) hb h
theorem gH {m:List Scan} {n:Nat} (h:n=(t.d_Scan m).length):g.dsub (t.d_Scan m) 0 n=t.d_Scan m:=by subst h;subst hg;simp[G.real]
theorem lf (l:List Scan):g.rda (t.d_Scan l)=t.r_Scan l:=by subst hg;subst ht;exact ya l
theorem ED (l:List Scan) (lo n:Nat):g.rd (t.d_Scan l) lo n=t.r_Scan (List.take n (List.drop lo l)):=by
 subst hg;subst ht
 rw[←ya,ef,ef]
 simp[G.real]
theorem qR {l:List Scan} {n:Nat} (h:n=(t.d_Scan l).length):g.rd (t.d_Scan l) 0 n=t.r_Scan l:=by rw[ED hg ht,h,gJ ht];simp
theorem Bt (l:List Scan) (a b:Int):g.rsub (t.r_Scan l) a b=t.r_Scan (List.drop (g.nat a) (List.take (g.nat b) l)):=by subst hg;subst ht;rw[jB,jB];simp[G.real]
theorem jK {l:List Scan} {i:Int} {k:Nat} (hi:i=((k:Nat):Int)) (hc:k<l.length):g.lt i (g.llen (t.r_Scan l))=true:=by subst hg;simp[G.real,m7 ht];omega
theorem jd {l:List Scan} {i:Int} {k:Nat} (hi:i=((k:Nat):Int)) (hc:¬k<l.length):g.lt i (g.llen (t.r_Scan l))=false:=by subst hg;simp[G.real,m7 ht];omega
theorem nr {l:List Scan} {i:Int} {k:Nat} (hi:i=((k:Nat):Int)) (hc:k<l.length) (hm:(t.r_Scan l).length≤maxLen):g.wrap .i64 (g.add i 1)=((k+1:Nat):Int):=by
 subst hg;rw[m7 ht] at hm;unfold maxLen at hm;simp only[G.real];rw[i64_in]<;>omega
@[simp] theorem ml (l:List Scan):G.real.llen (TE.real.r_Scan l)=(l.length:Int):=by rw[jB];simp[G.real]
@[simp] theorem bC (l:List Scan):G.real.dlen (TE.real.d_Scan l)=l.length:=by rw[ef];simp[G.real]
@[simp] theorem y7 (l:List Scan):(TE.real.r_Scan l).length=l.length:=by rw[jB];simp
theorem bF (m:List Scan) (lo n:Nat):g.dsub (t.d_Scan m) lo n=t.d_Scan (List.take n (List.drop lo m)):=by subst hg;subst ht;rw[ef,ef];simp[G.real]
theorem eX {m:List Scan} {lo n:Nat} (h:lo+n≤m.length):lo+n≤(t.d_Scan m).length∧iw (((t.d_Scan m).drop lo).take n)=true:=by
 subst ht;refine⟨by rw[gJ rfl];exact h,?_⟩
 rw[ef,←List.map_drop,←List.map_take];exact nB wG _
theorem uO (m:List Scan):g.up (t.r_Scan m)=t.d_Scan m:=by subst hg;subst ht;rw[jB,ef];simp[G.real,Scan.rs,Scan.ds]
theorem ou {m:List Scan} {n:Nat} (h:n=(t.d_Scan m).length):0+n≤(t.d_Scan m).length∧iw (((t.d_Scan m).drop 0).take n)=true:=by
 subst h;subst ht;refine⟨by omega,?_⟩
 simp only[List.drop_zero,List.take_length,ef];exact nB wG m
end
theorem sI (l:List Leg):TE.real.r_Leg l=l.map (Leg.rs TE.real):=rfl
theorem gY (l:List Leg):TE.real.d_Leg l=l.map (Leg.ds TE.real):=rfl
theorem DR (x:Leg):fq (Leg.ds TE.real x)=Leg.rs TE.real x:=by simp[Leg.ds,Leg.rs,fq,mC]
theorem D1 (l:List Leg):toRdss (TE.real.d_Leg l)=TE.real.r_Leg l:=by rw[gY,sI];exact kg DR l
section
variable {g:G} {t:TE} (hg:g=G.real) (ht:t=TE.real)
include ht
theorem pb (l:List Leg):(t.r_Leg l).length=l.length:=by subst ht;rw[sI];simp
theorem tT (l:List Leg):(t.d_Leg l).length=l.length:=by subst ht;rw[gY];simp
theorem Bm:t.d_Leg []=[]:=by subst ht;rfl
theorem mr (l:List Leg) (i:Nat) (x:Leg):(t.d_Leg (l.set i x)).length=(t.d_Leg l).length:=by subst ht;rw[gY,gY];simp
include hg
theorem bk {l:List Leg} {i:Nat} {x:Leg} (h:l[i]?=some x):(t.r_Leg l)[i]?=some (Leg.rs t x):=by subst ht;rw[sI];exact fK _ h
theorem f6 {l:List Leg} {i:Nat} {x:Leg} (h:l[i]?=some x):(t.d_Leg l)[i]?=some (Leg.ds t x):=by subst ht;rw[gY];exact fK _ h
theorem eT {l:List Leg} {i:Int} {k:Nat} {x:Leg} (hi:i=((k:Nat):Int)) (h:l[k]?=some x):(t.r_Leg l)[g.nat i]?=some (Leg.rs t x):=by
 subst hg;subst hi;exact bk rfl ht (by simpa [G.real] using h)
theorem vB (l:List Leg):List.map (Leg.ds t) l=t.d_Leg l:=by subst ht;rfl
theorem rt (l:List Leg):l.length=g.dlen (t.d_Leg l):=by subst hg;subst ht;rw[gY];simp[G.real]
theorem bf (l:List Leg):g.dlen (t.d_Leg l)=(t.d_Leg l).length:=by subst hg;rfl
theorem n5:g.dlen (t.d_Leg [])=0:=by subst hg;subst ht;rfl
theorem oC (l:List Leg) (i:Nat) (x:Leg):g.dset (t.d_Leg l) i (Leg.ds t x)=t.d_Leg (l.set i x):=by subst hg;subst ht;rw[gY,gY];simp[G.real,List.map_set]
theorem uU {l m:List Leg} {n:Nat} {news:List (List D)} (h1:n=(t.d_Leg l).length) (h2:news=t.d_Leg m):g.dapp (t.d_Leg l) n news=t.d_Leg (l++m):=by
 subst h1;subst h2;subst hg;subst ht;simp only[gY,G.real,List.map_append,List.take_length]
theorem rp {l m:List Leg} {n:Nat} {news:List (List D)} (h1:n=(t.d_Leg l).length) (h2:news=t.d_Leg m):g.nadd n (g.dlen news)=g.dlen (t.d_Leg (l++m)):=by
 subst h1;subst h2;subst hg;subst ht;simp only[gY,G.real,List.map_append,List.length_append]
theorem ng {l m:List Leg} {n b:Nat} {news:List (List D)} (h1:n=(t.d_Leg l).length) (h2:news=t.d_Leg m) (h:(l.length+m.length)*b≤70368744177664) (hb:0<b:=by decide):0=0∧n≤(t.d_Leg l).length∧n+news.length≤maxLen∧(n+news.length)*b≤140737488355328:=
 oG h1 (tT ht l) (h2▸tT ht m) hb h
theorem oA (l:List Leg):g.rda (t.d_Leg l)=t.r_Leg l:=by subst hg;subst ht;exact D1 l
theorem eZ {l:List Leg} {i:Int} {k:Nat} (hi:i=((k:Nat):Int)) (hc:k<l.length):g.lt i (g.llen (t.r_Leg l))=true:=by subst hg;simp[G.real,pb ht];omega
theorem eG {l:List Leg} {i:Int} {k:Nat} (hi:i=((k:Nat):Int)) (hc:¬k<l.length):g.lt i (g.llen (t.r_Leg l))=false:=by subst hg;simp[G.real,pb ht];omega
theorem iL {l:List Leg} {i:Int} {k:Nat} (hi:i=((k:Nat):Int)) (hc:k<l.length) (hm:(t.r_Leg l).length≤maxLen):g.wrap .i64 (g.add i 1)=((k+1:Nat):Int):=by
 subst hg;rw[pb ht] at hm;unfold maxLen at hm;simp only[G.real];rw[i64_in]<;>omega
@[simp] theorem sa (l:List Leg):G.real.llen (TE.real.r_Leg l)=(l.length:Int):=by rw[sI];simp[G.real]
@[simp] theorem oS (l:List Leg):G.real.dlen (TE.real.d_Leg l)=l.length:=by rw[gY];simp[G.real]
@[simp] theorem FZ (l:List Leg):(TE.real.r_Leg l).length=l.length:=by rw[sI];simp
theorem vW (m:List Leg) (lo n:Nat):g.dsub (t.d_Leg m) lo n=t.d_Leg (List.take n (List.drop lo m)):=by subst hg;subst ht;rw[gY,gY];simp[G.real]
end
theorem Eq (x:Int):mE (I64.ds TE.real x)=true:=rfl
theorem pk (l:List Int):TE.real.r_I64 l=l.map (I64.rs TE.real):=rfl
theorem fw (l:List Int):TE.real.d_I64 l=l.map (I64.ds TE.real):=rfl
theorem D0 (x:Int):fq (I64.ds TE.real x)=I64.rs TE.real x:=by simp[I64.ds,I64.rs,fq,mC]
theorem Ew (x:Int):dL (I64.ds TE.real x)=true:=by simp[I64.ds,dL,gN]
theorem zZ (l:List Int):toRdss (TE.real.d_I64 l)=TE.real.r_I64 l:=by rw[fw,pk];exact kg D0 l
theorem En (l:List Int):dX (TE.real.d_I64 l)=true:=by rw[fw];exact xh Ew l
section
variable {g:G} {t:TE} (hg:g=G.real) (ht:t=TE.real)
include ht
theorem oO (l:List Int):(t.r_I64 l).length=l.length:=by subst ht;rw[pk];simp
theorem oL (l:List Int):(t.d_I64 l).length=l.length:=by subst ht;rw[fw];simp
theorem oW:t.d_I64 []=[]:=by subst ht;rfl
theorem kb (l:List Int) (i:Nat) (x:Int):(t.d_I64 (l.set i x)).length=(t.d_I64 l).length:=by subst ht;rw[fw,fw];simp
theorem t8 (l:List Int):dX (t.d_I64 l)=true:=by subst ht;exact En l
theorem rA {l:List Int} {n:Nat} (h:n=(t.d_I64 l).length):0+n≤(t.d_I64 l).length:=by omega
include hg
theorem e7 {l:List Int} {i:Nat} {x:Int} (h:l[i]?=some x):(t.r_I64 l)[i]?=some (I64.rs t x):=by subst ht;rw[pk];exact fK _ h
theorem bB {l:List Int} {i:Nat} {x:Int} (h:l[i]?=some x):(t.d_I64 l)[i]?=some (I64.ds t x):=by subst ht;rw[fw];exact fK _ h
theorem fT {l:List Int} {i:Int} {k:Nat} {x:Int} (hi:i=((k:Nat):Int)) (h:l[k]?=some x):(t.r_I64 l)[g.nat i]?=some (I64.rs t x):=by
 subst hg;subst hi;exact e7 rfl ht (by simpa [G.real] using h)
theorem cS (l:List Int):List.map (I64.ds t) l=t.d_I64 l:=by subst ht;rfl
theorem co (l:List Int):l.length=g.dlen (t.d_I64 l):=by subst hg;subst ht;rw[fw];simp[G.real]
theorem al (l:List Int):g.dlen (t.d_I64 l)=(t.d_I64 l).length:=by subst hg;rfl
theorem lB (l:List Int) (i:Nat) (x:Int):g.dset (t.d_I64 l) i (I64.ds t x)=t.d_I64 (l.set i x):=by subst hg;subst ht;rw[fw,fw];simp[G.real,List.map_set]
theorem kN {l m:List Int} {n:Nat} {news:List (List D)} (h1:n=(t.d_I64 l).length) (h2:news=t.d_I64 m):g.dapp (t.d_I64 l) n news=t.d_I64 (l++m):=by
 subst h1;subst h2;subst hg;subst ht;simp only[fw,G.real,List.map_append,List.take_length]
theorem je {l m:List Int} {n:Nat} {news:List (List D)} (h1:n=(t.d_I64 l).length) (h2:news=t.d_I64 m):g.nadd n (g.dlen news)=g.dlen (t.d_I64 (l++m)):=by
 subst h1;subst h2;subst hg;subst ht;simp only[fw,G.real,List.map_append,List.length_append]
theorem fM {l m:List Int} {n b:Nat} {news:List (List D)} (h1:n=(t.d_I64 l).length) (h2:news=t.d_I64 m) (h:(l.length+m.length)*b≤70368744177664) (hb:0<b:=by decide):0=0∧n≤(t.d_I64 l).length∧n+news.length≤maxLen∧(n+news.length)*b≤140737488355328:=
 oG h1 (oL ht l) (h2▸oL ht m) hb h
theorem pt {m:List Int} {n:Nat} (h:n=(t.d_I64 m).length):g.dsub (t.d_I64 m) 0 n=t.d_I64 m:=by subst h;subst hg;simp[G.real]
theorem mc (l:List Int):g.rda (t.d_I64 l)=t.r_I64 l:=by subst hg;subst ht;exact zZ l
theorem dE (l:List Int):g.rda (List.map (I64.ds t) l)=t.r_I64 l:=by rw[cS hg ht];exact mc hg ht l
theorem ES (l:List Int) (lo n:Nat):g.rd (t.d_I64 l) lo n=t.r_I64 (List.take n (List.drop lo l)):=by
 subst hg;subst ht
 rw[←zZ,fw,fw]
 simp[G.real]
theorem vn {l:List Int} {n:Nat} (h:n=(t.d_I64 l).length):g.rd (t.d_I64 l) 0 n=t.r_I64 l:=by rw[ES hg ht,h,oL ht];simp
theorem e8 {l:List Int} {i:Int} {k:Nat} (hi:i=((k:Nat):Int)) (hc:k<l.length):g.lt i (g.llen (t.r_I64 l))=true:=by subst hg;simp[G.real,oO ht];omega
theorem eE {l:List Int} {i:Int} {k:Nat} (hi:i=((k:Nat):Int)) (hc:¬k<l.length):g.lt i (g.llen (t.r_I64 l))=false:=by subst hg;simp[G.real,oO ht];omega
theorem iM {l:List Int} {i:Int} {k:Nat} (hi:i=((k:Nat):Int)) (hc:k<l.length) (hm:(t.r_I64 l).length≤maxLen):g.wrap .i64 (g.add i 1)=((k+1:Nat):Int):=by
 subst hg;rw[oO ht] at hm;unfold maxLen at hm;simp only[G.real];rw[i64_in]<;>omega
@[simp] theorem wo (l:List Int):G.real.llen (TE.real.r_I64 l)=(l.length:Int):=by rw[pk];simp[G.real]
@[simp] theorem bQ (l:List Int):G.real.dlen (TE.real.d_I64 l)=l.length:=by rw[fw];simp[G.real]
@[simp] theorem FX (l:List Int):(TE.real.r_I64 l).length=l.length:=by rw[pk];simp
theorem ye (m:List Int):g.up (t.r_I64 m)=t.d_I64 m:=by subst hg;subst ht;rw[pk,fw];simp[G.real,I64.rs,I64.ds]
theorem wM {m:List Int} {n:Nat} (h:n=(t.d_I64 m).length):0+n≤(t.d_I64 m).length∧iw (((t.d_I64 m).drop 0).take n)=true:=by
 subst h;subst ht;refine⟨by omega,?_⟩
 simp only[List.drop_zero,List.take_length,fw];exact nB Eq m
end
theorem Cv (x:Trip):mE (Trip.ds TE.real x)=true:=rfl
theorem nH (l:List Trip):TE.real.r_Trip l=l.map (Trip.rs TE.real):=rfl
theorem hC (l:List Trip):TE.real.d_Trip l=l.map (Trip.ds TE.real):=rfl
theorem Dv (x:Trip):fq (Trip.ds TE.real x)=Trip.rs TE.real x:=by simp[Trip.ds,Trip.rs,fq,mC]
theorem BP (l:List Trip):toRdss (TE.real.d_Trip l)=TE.real.r_Trip l:=by rw[hC,nH];exact kg Dv l
section
variable {g:G} {t:TE} (hg:g=G.real) (ht:t=TE.real)
include ht
theorem nl (l:List Trip):(t.r_Trip l).length=l.length:=by subst ht;rw[nH];simp
theorem m9 (l:List Trip):(t.d_Trip l).length=l.length:=by subst ht;rw[hC];simp
theorem Bu {l:List Trip} {n:Nat} (h:n=(t.d_Trip l).length):0+n≤(t.d_Trip l).length:=by omega
include hg
theorem yo {l:List Trip} {i:Nat} {x:Trip} (h:l[i]?=some x):(t.r_Trip l)[i]?=some (Trip.rs t x):=by subst ht;rw[nH];exact fK _ h
theorem kV {l:List Trip} {i:Nat} {x:Trip} (h:l[i]?=some x):(t.d_Trip l)[i]?=some (Trip.ds t x):=by subst ht;rw[hC];exact fK _ h
theorem lX {l:List Trip} {i:Int} {k:Nat} {x:Trip} (hi:i=((k:Nat):Int)) (h:l[k]?=some x):(t.r_Trip l)[g.nat i]?=some (Trip.rs t x):=by
 subst hg;subst hi;exact yo rfl ht (by simpa [G.real] using h)
theorem sz (l:List Trip):List.map (Trip.ds t) l=t.d_Trip l:=by subst ht;rfl
theorem oY (l:List Trip):l.length=g.dlen (t.d_Trip l):=by subst hg;subst ht;rw[hC];simp[G.real]
theorem d6 (l:List Trip):g.dlen (t.d_Trip l)=(t.d_Trip l).length:=by subst hg;rfl
theorem BU {l m:List Trip} {n:Nat} {news:List (List D)} (h1:n=(t.d_Trip l).length) (h2:news=t.d_Trip m):g.dapp (t.d_Trip l) n news=t.d_Trip (l++m):=by
 subst h1;subst h2;subst hg;subst ht;simp only[hC,G.real,List.map_append,List.take_length]
theorem AX {l m:List Trip} {n:Nat} {news:List (List D)} (h1:n=(t.d_Trip l).length) (h2:news=t.d_Trip m):g.nadd n (g.dlen news)=g.dlen (t.d_Trip (l++m)):=by
 subst h1;subst h2;subst hg;subst ht;simp only[hC,G.real,List.map_append,List.length_append]
theorem wv {l m:List Trip} {n b:Nat} {news:List (List D)} (h1:n=(t.d_Trip l).length) (h2:news=t.d_Trip m) (h:(l.length+m.length)*b≤70368744177664) (hb:0<b:=by decide):0=0∧n≤(t.d_Trip l).length∧n+news.length≤maxLen∧(n+news.length)*b≤140737488355328:=
 oG h1 (m9 ht l) (h2▸m9 ht m) hb h
theorem ni {m:List Trip} {n:Nat} (h:n=(t.d_Trip m).length):g.dsub (t.d_Trip m) 0 n=t.d_Trip m:=by subst h;subst hg;simp[G.real]
theorem Ep (l:List Trip) (lo n:Nat):g.rd (t.d_Trip l) lo n=t.r_Trip (List.take n (List.drop lo l)):=by
 subst hg;subst ht
 rw[←BP,hC,hC]
 simp[G.real]
theorem B6 {l:List Trip} {n:Nat} (h:n=(t.d_Trip l).length):g.rd (t.d_Trip l) 0 n=t.r_Trip l:=by rw[Ep hg ht,h,m9 ht];simp
theorem mH {l:List Trip} {i:Int} {k:Nat} (hi:i=((k:Nat):Int)) (hc:k<l.length):g.lt i (g.llen (t.r_Trip l))=true:=by subst hg;simp[G.real,nl ht];omega
theorem lv {l:List Trip} {i:Int} {k:Nat} (hi:i=((k:Nat):Int)) (hc:¬k<l.length):g.lt i (g.llen (t.r_Trip l))=false:=by subst hg;simp[G.real,nl ht];omega
theorem q9 {l:List Trip} {i:Int} {k:Nat} (hi:i=((k:Nat):Int)) (hc:k<l.length) (hm:(t.r_Trip l).length≤maxLen):g.wrap .i64 (g.add i 1)=((k+1:Nat):Int):=by
 subst hg;rw[nl ht] at hm;unfold maxLen at hm;simp only[G.real];rw[i64_in]<;>omega
@[simp] theorem FY (l:List Trip):G.real.llen (TE.real.r_Trip l)=(l.length:Int):=by rw[nH];simp[G.real]
@[simp] theorem na (l:List Trip):G.real.dlen (TE.real.d_Trip l)=l.length:=by rw[hC];simp[G.real]
@[simp] theorem Fp (l:List Trip):(TE.real.r_Trip l).length=l.length:=by rw[nH];simp
theorem uz {m:List Trip} {n:Nat} (h:n=(t.d_Trip m).length):0+n≤(t.d_Trip m).length∧iw (((t.d_Trip m).drop 0).take n)=true:=by
 subst h;subst ht;refine⟨by omega,?_⟩
 simp only[List.drop_zero,List.take_length,hC];exact nB Cv m
end
theorem kz (l:List Booking):TE.real.r_Booking l=l.map (Booking.rs TE.real):=rfl
theorem yi (l:List Booking):TE.real.d_Booking l=l.map (Booking.ds TE.real):=rfl
section
variable {g:G} {t:TE} (hg:g=G.real) (ht:t=TE.real)
include ht
theorem jJ (l:List Booking):(t.r_Booking l).length=l.length:=by subst ht;rw[kz];simp
include hg
theorem sR {l:List Booking} {i:Nat} {x:Booking} (h:l[i]?=some x):(t.r_Booking l)[i]?=some (Booking.rs t x):=by subst ht;rw[kz];exact fK _ h
theorem rD {l:List Booking} {i:Int} {k:Nat} {x:Booking} (hi:i=((k:Nat):Int)) (h:l[k]?=some x):(t.r_Booking l)[g.nat i]?=some (Booking.rs t x):=by
 subst hg;subst hi;exact sR rfl ht (by simpa [G.real] using h)
theorem oQ {l:List Booking} {i:Int} {k:Nat} (hi:i=((k:Nat):Int)) (hc:k<l.length):g.lt i (g.llen (t.r_Booking l))=true:=by subst hg;simp[G.real,jJ ht];omega
theorem nW {l:List Booking} {i:Int} {k:Nat} (hi:i=((k:Nat):Int)) (hc:¬k<l.length):g.lt i (g.llen (t.r_Booking l))=false:=by subst hg;simp[G.real,jJ ht];omega
theorem sZ {l:List Booking} {i:Int} {k:Nat} (hi:i=((k:Nat):Int)) (hc:k<l.length) (hm:(t.r_Booking l).length≤maxLen):g.wrap .i64 (g.add i 1)=((k+1:Nat):Int):=by
 subst hg;rw[jJ ht] at hm;unfold maxLen at hm;simp only[G.real];rw[i64_in]<;>omega
@[simp] theorem Ea (l:List Booking):G.real.llen (TE.real.r_Booking l)=(l.length:Int):=by rw[kz];simp[G.real]
@[simp] theorem DL (l:List Booking):G.real.dlen (TE.real.d_Booking l)=l.length:=by rw[yi];simp[G.real]
@[simp] theorem DM (l:List Booking):(TE.real.r_Booking l).length=l.length:=by rw[kz];simp
end
theorem GB (x:ByteArray):mE (S.ds TE.real x)=true:=rfl
theorem Ct (l:List ByteArray):TE.real.r_S l=l.map (S.rs TE.real):=rfl
theorem qc (l:List ByteArray):TE.real.d_S l=l.map (S.ds TE.real):=rfl
theorem Gt (x:ByteArray):fq (S.ds TE.real x)=S.rs TE.real x:=by simp[S.ds,S.rs,fq,mC]
theorem EI (l:List ByteArray):toRdss (TE.real.d_S l)=TE.real.r_S l:=by rw[qc,Ct];exact kg Gt l
section
variable {g:G} {t:TE} (hg:g=G.real) (ht:t=TE.real)
include ht
theorem uT (l:List ByteArray):(t.r_S l).length=l.length:=by subst ht;rw[Ct];simp
theorem mo (l:List ByteArray):(t.d_S l).length=l.length:=by subst ht;rw[qc];simp
theorem EV {l l2:List ByteArray} {n:Nat} (h:n=(t.d_S l).length) (h2:l2.length=l.length):n=(t.d_S l2).length:=by rw[h,mo ht,mo ht,h2]
theorem fv {l:List ByteArray} {n:Nat} (h:n=(t.d_S l).length):0+n≤(t.d_S l).length:=by omega
include hg
theorem vo {l:List ByteArray} {i:Nat} {x:ByteArray} (h:l[i]?=some x):(t.r_S l)[i]?=some (S.rs t x):=by subst ht;rw[Ct];exact fK _ h
theorem ma {l:List ByteArray} {i:Nat} {x:ByteArray} (h:l[i]?=some x):(t.d_S l)[i]?=some (S.ds t x):=by subst ht;rw[qc];exact fK _ h
theorem wy {l:List ByteArray} {i:Int} {k:Nat} {x:ByteArray} (hi:i=((k:Nat):Int)) (h:l[k]?=some x):(t.r_S l)[g.nat i]?=some (S.rs t x):=by
 subst hg;subst hi;exact vo rfl ht (by simpa [G.real] using h)
theorem jY (l:List ByteArray):List.map (S.ds t) l=t.d_S l:=by subst ht;rfl
theorem iA (l:List ByteArray):l.length=g.dlen (t.d_S l):=by subst hg;subst ht;rw[qc];simp[G.real]
theorem ar (l:List ByteArray):g.dlen (t.d_S l)=(t.d_S l).length:=by subst hg;rfl
theorem jX {l m:List ByteArray} {n:Nat} {news:List (List D)} (h1:n=(t.d_S l).length) (h2:news=t.d_S m):g.dapp (t.d_S l) n news=t.d_S (l++m):=by
 subst h1;subst h2;subst hg;subst ht;simp only[qc,G.real,List.map_append,List.take_length]
theorem gL {l m:List ByteArray} {n:Nat} {news:List (List D)} (h1:n=(t.d_S l).length) (h2:news=t.d_S m):g.nadd n (g.dlen news)=g.dlen (t.d_S (l++m)):=by
 subst h1;subst h2;subst hg;subst ht;simp only[qc,G.real,List.map_append,List.length_append]
theorem d9 {l m:List ByteArray} {n b:Nat} {news:List (List D)} (h1:n=(t.d_S l).length) (h2:news=t.d_S m) (h:(l.length+m.length)*b≤70368744177664) (hb:0<b:=by decide):0=0∧n≤(t.d_S l).length∧n+news.length≤maxLen∧(n+news.length)*b≤140737488355328:=
 oG h1 (mo ht l) (h2▸mo ht m) hb h
theorem G2 (l:List ByteArray):g.rda (t.d_S l)=t.r_S l:=by subst hg;subst ht;exact EI l
theorem yK (l:List ByteArray):g.rda (List.map (S.ds t) l)=t.r_S l:=by rw[jY hg ht];exact G2 hg ht l
theorem rd_S (l:List ByteArray) (lo n:Nat):g.rd (t.d_S l) lo n=t.r_S (List.take n (List.drop lo l)):=by
 subst hg;subst ht
 rw[←EI,qc,qc]
 simp[G.real]
theorem iC {l:List ByteArray} {n:Nat} (h:n=(t.d_S l).length):g.rd (t.d_S l) 0 n=t.r_S l:=by rw[rd_S hg ht,h,mo ht];simp
theorem mX {l:List ByteArray} {i:Int} {k:Nat} (hi:i=((k:Nat):Int)) (hc:k<l.length):g.lt i (g.llen (t.r_S l))=true:=by subst hg;simp[G.real,uT ht];omega
theorem lh {l:List ByteArray} {i:Int} {k:Nat} (hi:i=((k:Nat):Int)) (hc:¬k<l.length):g.lt i (g.llen (t.r_S l))=false:=by subst hg;simp[G.real,uT ht];omega
theorem uJ {l:List ByteArray} {i:Int} {k:Nat} (hi:i=((k:Nat):Int)) (hc:k<l.length) (hm:(t.r_S l).length≤maxLen):g.wrap .i64 (g.add i 1)=((k+1:Nat):Int):=by
 subst hg;rw[uT ht] at hm;unfold maxLen at hm;simp only[G.real];rw[i64_in]<;>omega
@[simp] theorem llen_S (l:List ByteArray):G.real.llen (TE.real.r_S l)=(l.length:Int):=by rw[Ct];simp[G.real]
@[simp] theorem iI (l:List ByteArray):G.real.dlen (TE.real.d_S l)=l.length:=by rw[qc];simp[G.real]
@[simp] theorem rlenx_S (l:List ByteArray):(TE.real.r_S l).length=l.length:=by rw[Ct];simp
theorem cQ (m:List ByteArray) (lo n:Nat):g.dsub (t.d_S m) lo n=t.d_S (List.take n (List.drop lo m)):=by subst hg;subst ht;rw[qc,qc];simp[G.real]
theorem fU {m:List ByteArray} {lo n:Nat} (h:lo+n≤m.length):lo+n≤(t.d_S m).length∧iw (((t.d_S m).drop lo).take n)=true:=by
 subst ht;refine⟨by rw[mo rfl];exact h,?_⟩
 rw[qc,←List.map_drop,←List.map_take];exact nB GB _
end
theorem Al (l:List (List Int)):TE.real.r_LI64 l=l.map (LI64.rs TE.real):=rfl
theorem Eu (l:List (List Int)):TE.real.d_LI64 l=l.map (LI64.ds TE.real):=rfl
section
variable {g:G} {t:TE} (hg:g=G.real) (ht:t=TE.real)
include ht
include hg
@[simp] theorem F0 (l:List (List Int)):G.real.llen (TE.real.r_LI64 l)=(l.length:Int):=by rw[Al];simp[G.real]
@[simp] theorem qV (l:List (List Int)):G.real.dlen (TE.real.d_LI64 l)=l.length:=by rw[Eu];simp[G.real]
@[simp] theorem E2 (l:List (List Int)):(TE.real.r_LI64 l).length=l.length:=by rw[Al];simp
end
end Go.Vs
