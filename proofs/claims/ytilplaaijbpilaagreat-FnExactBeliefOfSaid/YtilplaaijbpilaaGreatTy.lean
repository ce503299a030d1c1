/- Part of the proofs of this seat's laws: Ty. No condition. -/
import Derived.Test.YtilplaaijbpilaaGreatVf
set_option linter.unusedVariables false
set_option linter.unusedSimpArgs false
set_option linter.unusedSectionVars false
namespace Go.Vs
open Go.IntWalk
set_option linter.unusedVariables false
set_option linter.unusedSimpArgs false
set_option linter.unusedSectionVars false
structure Leg where
 From:ByteArray
 To:ByteArray
 Start:Int
 Takes:Int
 Days:Int
 Room:Int
structure Network where
 Legs:List Leg
 Off:List Int
 Change:Int
structure Trip where
 Leg:Int
 Day:Int
structure Scan where
 Thing:Int
 At:Int
 Kind:Int
 Place:ByteArray
 Trip:Trip
structure Belief where
 Places:List ByteArray
 Rides:List Trip
structure Spot where
 Place:ByteArray
 At:Int
structure Know where
 n:Network
 at_:Int
 known:Bool
 place:ByteArray
 ride:Trip
 rides:Bool
 free:Bool
 from_:Spot
 to:Spot
 more:Bool
def G5 (l:List Leg):List (List R):=l.map fun x=>[.v (.string x.From),.v (.string x.To),.v (.int .i64 x.Start),.v (.int .i64 x.Takes),.v (.int .i64 x.Days),.v (.int .i64 x.Room)]
def dLeg (l:List Leg):List (List D):=l.map fun x=>[.r (.v (.string x.From)),.r (.v (.string x.To)),.r (.v (.int .i64 x.Start)),.r (.v (.int .i64 x.Takes)),.r (.v (.int .i64 x.Days)),.r (.v (.int .i64 x.Room))]
def HF (l:List Int):List (List R):=l.map fun x=>[.v (.int .i64 x)]
def dI64 (l:List Int):List (List D):=l.map fun x=>[.r (.v (.int .i64 x))]
def If (l:List Scan):List (List R):=l.map fun x=>[.v (.int .i64 x.Thing),.v (.int .i64 x.At),.v (.int .i64 x.Kind),.v (.string x.Place),.v (.int .i64 x.Trip.Leg),.v (.int .i64 x.Trip.Day)]
def Ig (l:List Scan):List (List D):=l.map fun x=>[.r (.v (.int .i64 x.Thing)),.r (.v (.int .i64 x.At)),.r (.v (.int .i64 x.Kind)),.r (.v (.string x.Place)),.r (.v (.int .i64 x.Trip.Leg)),.r (.v (.int .i64 x.Trip.Day))]
def rS (l:List ByteArray):List (List R):=l.map fun x=>[.v (.string x)]
def dS (l:List ByteArray):List (List D):=l.map fun x=>[.r (.v (.string x))]
def GJ (l:List Trip):List (List R):=l.map fun x=>[.v (.int .i64 x.Leg),.v (.int .i64 x.Day)]
def Gz (l:List Trip):List (List D):=l.map fun x=>[.r (.v (.int .i64 x.Leg)),.r (.v (.int .i64 x.Day))]
def rU8 (l:List Int):List (List R):=l.map fun x=>[.v (.int .u8 x)]
def dU8 (l:List Int):List (List D):=l.map fun x=>[.r (.v (.int .u8 x))]
inductive Fd where
 |I_nextOf_1 (a0:Network)
def rFd:Fd→R
 |.I_nextOf_1 a0=>.fn 172 [[.s 6 (G5 a0.Legs),.s 1 (HF a0.Off),.v (.int .i64 a0.Change)]]
structure TE where
 r_Leg:List Leg→List (List R)
 d_Leg:List Leg→List (List D)
 r_I64:List Int→List (List R)
 d_I64:List Int→List (List D)
 r_Scan:List Scan→List (List R)
 d_Scan:List Scan→List (List D)
 r_S:List ByteArray→List (List R)
 d_S:List ByteArray→List (List D)
 r_Trip:List Trip→List (List R)
 d_Trip:List Trip→List (List D)
 r_U8:List Int→List (List R)
 d_U8:List Int→List (List D)
 r_Fd:Fd→R
def TE.real:TE:=⟨G5,dLeg,HF,dI64,If,Ig,rS,dS,GJ,Gz,rU8,dU8,rFd⟩
theorem mG {t:TE} (ht:t=TE.real) (a0:Network):R.fn 172 [[.s 6 (t.r_Leg a0.Legs),.s 1 (t.r_I64 a0.Off),.v (.int .i64 a0.Change)]]=t.r_Fd (.I_nextOf_1 a0):=by subst ht;rfl
def Leg.rs (t:TE) (x:Leg):List R:=[.v (.string x.From),.v (.string x.To),.v (.int .i64 x.Start),.v (.int .i64 x.Takes),.v (.int .i64 x.Days),.v (.int .i64 x.Room)]
def Leg.ds (t:TE) (x:Leg):List D:=[.r (.v (.string x.From)),.r (.v (.string x.To)),.r (.v (.int .i64 x.Start)),.r (.v (.int .i64 x.Takes)),.r (.v (.int .i64 x.Days)),.r (.v (.int .i64 x.Room))]
def Network.rs (t:TE) (x:Network):List R:=[.s 6 (t.r_Leg x.Legs),.s 1 (t.r_I64 x.Off),.v (.int .i64 x.Change)]
def Network.ds (t:TE) (x:Network):List D:=[.o 6 (t.d_Leg x.Legs),.o 1 (t.d_I64 x.Off),.r (.v (.int .i64 x.Change))]
def Trip.rs (t:TE) (x:Trip):List R:=[.v (.int .i64 x.Leg),.v (.int .i64 x.Day)]
def Trip.ds (t:TE) (x:Trip):List D:=[.r (.v (.int .i64 x.Leg)),.r (.v (.int .i64 x.Day))]
def Scan.rs (t:TE) (x:Scan):List R:=[.v (.int .i64 x.Thing),.v (.int .i64 x.At),.v (.int .i64 x.Kind),.v (.string x.Place),.v (.int .i64 x.Trip.Leg),.v (.int .i64 x.Trip.Day)]
def Scan.ds (t:TE) (x:Scan):List D:=[.r (.v (.int .i64 x.Thing)),.r (.v (.int .i64 x.At)),.r (.v (.int .i64 x.Kind)),.r (.v (.string x.Place)),.r (.v (.int .i64 x.Trip.Leg)),.r (.v (.int .i64 x.Trip.Day))]
def Belief.rs (t:TE) (x:Belief):List R:=[.s 1 (t.r_S x.Places),.s 2 (t.r_Trip x.Rides)]
def Belief.ds (t:TE) (x:Belief):List D:=[.o 1 (t.d_S x.Places),.o 2 (t.d_Trip x.Rides)]
def Spot.rs (t:TE) (x:Spot):List R:=[.v (.string x.Place),.v (.int .i64 x.At)]
def Spot.ds (t:TE) (x:Spot):List D:=[.r (.v (.string x.Place)),.r (.v (.int .i64 x.At))]
def Know.rs (t:TE) (x:Know):List R:=[.s 6 (t.r_Leg x.n.Legs),.s 1 (t.r_I64 x.n.Off),.v (.int .i64 x.n.Change),.v (.int .i64 x.at_),.v (.bool x.known),.v (.string x.place),.v (.int .i64 x.ride.Leg),.v (.int .i64 x.ride.Day),.v (.bool x.rides),.v (.bool x.free),.v (.string x.from_.Place),.v (.int .i64 x.from_.At),.v (.string x.to.Place),.v (.int .i64 x.to.At),.v (.bool x.more)]
def Know.ds (t:TE) (x:Know):List D:=[.r (.s 6 (t.r_Leg x.n.Legs)),.r (.s 1 (t.r_I64 x.n.Off)),.r (.v (.int .i64 x.n.Change)),.r (.v (.int .i64 x.at_)),.r (.v (.bool x.known)),.r (.v (.string x.place)),.r (.v (.int .i64 x.ride.Leg)),.r (.v (.int .i64 x.ride.Day)),.r (.v (.bool x.rides)),.r (.v (.bool x.free)),.r (.v (.string x.from_.Place)),.r (.v (.int .i64 x.from_.At)),.r (.v (.string x.to.Place)),.r (.v (.int .i64 x.to.At)),.r (.v (.bool x.more))]
def I64.rs (t:TE) (x:Int):List R:=[.v (.int .i64 x)]
def I64.ds (t:TE) (x:Int):List D:=[.r (.v (.int .i64 x))]
def S.rs (t:TE) (x:ByteArray):List R:=[.v (.string x)]
def S.ds (t:TE) (x:ByteArray):List D:=[.r (.v (.string x))]
def U8.rs (t:TE) (x:Int):List R:=[.v (.int .u8 x)]
def U8.ds (t:TE) (x:Int):List D:=[.r (.v (.int .u8 x))]
theorem iy {α β:Type} (f:α→β) {l:List α} {i:Nat} {x:α} (h:l[i]?=some x):(l.map f)[i]?=some (f x):=by rw[List.getElem?_map,h];rfl
theorem jo {α:Type} {f:α→List D} {q:α→List R} (h:∀x,fu (f x)=q x) (l:List α):toRdss (l.map f)=l.map q:=by
 induction l with
 |nil=>rfl
 |cons x l ih=>simp only[List.map_cons,toRdss,h,ih]
theorem rF {α:Type} {f:α→List D} (h:∀x,d9 (f x)=true) (l:List α):dc (l.map f)=true:=by
 induction l with
 |nil=>rfl
 |cons x l ih=>simp only[List.map_cons,dc,h,ih,Bool.and_self]
theorem uR {α:Type} {f:α→List D} (h:∀x,ow (f x)=true) (l:List α):ku (l.map f)=true:=by
 induction l with
 |nil=>rfl
 |cons x l ih=>simp only[List.map_cons,ku,h,ih,Bool.and_self]
theorem Fu {t:TE} (ht:t=TE.real) (l:List Int):bsR (t.r_U8 l)=some l:=by
 subst ht
 induction l with
 |nil=>rfl
 |cons x l ih=>
  have e:TE.real.r_U8 (x::l)=[.v (.int .u8 x)]::TE.real.r_U8 l:=rfl
  rw[e,bsR,ih]
  rfl
theorem rJ (l:List Leg):TE.real.r_Leg l=l.map (Leg.rs TE.real):=rfl
theorem iU (l:List Leg):TE.real.d_Leg l=l.map (Leg.ds TE.real):=rfl
theorem D2 (x:Leg):fu (Leg.ds TE.real x)=Leg.rs TE.real x:=by simp[Leg.ds,Leg.rs,fu,mo]
theorem ze (l:List Leg):toRdss (TE.real.d_Leg l)=TE.real.r_Leg l:=by rw[iU,rJ];exact jo D2 l
section
variable {g:G} {t:TE} (hg:g=G.real) (ht:t=TE.real)
include ht
theorem px (l:List Leg):(t.r_Leg l).length=l.length:=by subst ht;rw[rJ];simp
theorem pI (l:List Leg):(t.d_Leg l).length=l.length:=by subst ht;rw[iU];simp
theorem it (l:List Leg) (i:Nat) (x:Leg):(t.d_Leg (l.set i x)).length=(t.d_Leg l).length:=by subst ht;rw[iU,iU];simp
theorem vR {l l2:List Leg} {n:Nat} (h:n=(t.d_Leg l).length) (h2:l2.length=l.length):n=(t.d_Leg l2).length:=by rw[h,pI ht,pI ht,h2]
theorem og {l:List Leg} {n:Nat} (h:n=(t.d_Leg l).length):0+n≤(t.d_Leg l).length:=by omega
include hg
theorem ax {l:List Leg} {i:Nat} {x:Leg} (h:l[i]?=some x):(t.r_Leg l)[i]?=some (Leg.rs t x):=by subst ht;rw[rJ];exact iy _ h
theorem hZ {l:List Leg} {i:Nat} {x:Leg} (h:l[i]?=some x):(t.d_Leg l)[i]?=some (Leg.ds t x):=by subst ht;rw[iU];exact iy _ h
theorem eU {l:List Leg} {i:Int} {k:Nat} {x:Leg} (hi:i=((k:Nat):Int)) (h:l[k]?=some x):(t.r_Leg l)[g.nat i]?=some (Leg.rs t x):=by
 subst hg;subst hi;exact ax rfl ht (by simpa [G.real] using h)
theorem bN (l:List Leg):g.dlen (t.d_Leg l)=(t.d_Leg l).length:=by subst hg;rfl
theorem CI (j:Int) (z:Leg):g.drep j (Leg.ds t z)=t.d_Leg (List.replicate (g.nat j) z):=by subst hg;subst ht;rw[iU];simp[G.real]
theorem Bs (j:Int) (z:Leg):g.nat j=g.dlen (t.d_Leg (List.replicate (g.nat j) z)):=by subst hg;subst ht;rw[iU];simp[G.real]
theorem jZ (l:List Leg) (i:Nat) (x:Leg):g.dset (t.d_Leg l) i (Leg.ds t x)=t.d_Leg (l.set i x):=by subst hg;subst ht;rw[iU,iU];simp[G.real,List.map_set]
theorem zY (l:List Leg):g.rda (t.d_Leg l)=t.r_Leg l:=by subst hg;subst ht;exact ze l
theorem Fo (l:List Leg) (lo n:Nat):g.rd (t.d_Leg l) lo n=t.r_Leg (List.take n (List.drop lo l)):=by
 subst hg;subst ht
 rw[←ze,iU,iU]
 simp[G.real]
theorem qV {l:List Leg} {n:Nat} (h:n=(t.d_Leg l).length):g.rd (t.d_Leg l) 0 n=t.r_Leg l:=by rw[Fo hg ht,h,pI ht];simp
theorem cL {l:List Leg} {i:Int} {k:Nat} (hi:i=((k:Nat):Int)) (hc:k<l.length):g.lt i (g.llen (t.r_Leg l))=true:=by subst hg;simp[G.real,px ht];omega
theorem cg {l:List Leg} {i:Int} {k:Nat} (hi:i=((k:Nat):Int)) (hc:¬k<l.length):g.lt i (g.llen (t.r_Leg l))=false:=by subst hg;simp[G.real,px ht];omega
theorem ff {l:List Leg} {i:Int} {k:Nat} (hi:i=((k:Nat):Int)) (hc:k<l.length) (hm:(t.r_Leg l).length≤maxLen):g.wrap .i64 (g.add i 1)=((k+1:Nat):Int):=by
 subst hg;rw[px ht] at hm;unfold maxLen at hm;simp only[G.real];rw[i64_in]<;>omega
@[simp] theorem mz (l:List Leg):G.real.llen (TE.real.r_Leg l)=(l.length:Int):=by rw[rJ];simp[G.real]
@[simp] theorem kT (l:List Leg):G.real.dlen (TE.real.d_Leg l)=l.length:=by rw[iU];simp[G.real]
@[simp] theorem Gi (l:List Leg):(TE.real.r_Leg l).length=l.length:=by rw[rJ];simp
end
theorem EG (x:Int):ow (I64.ds TE.real x)=true:=rfl
theorem pj (l:List Int):TE.real.r_I64 l=l.map (I64.rs TE.real):=rfl
theorem fk (l:List Int):TE.real.d_I64 l=l.map (I64.ds TE.real):=rfl
theorem Ev (x:Int):fu (I64.ds TE.real x)=I64.rs TE.real x:=by simp[I64.ds,I64.rs,fu,mo]
theorem EP (x:Int):d9 (I64.ds TE.real x)=true:=by simp[I64.ds,d9,iV]
theorem zH (l:List Int):toRdss (TE.real.d_I64 l)=TE.real.r_I64 l:=by rw[fk,pj];exact jo Ev l
theorem Er (l:List Int):dc (TE.real.d_I64 l)=true:=by rw[fk];exact rF EP l
section
variable {g:G} {t:TE} (hg:g=G.real) (ht:t=TE.real)
include ht
theorem pK (l:List Int):(t.r_I64 l).length=l.length:=by subst ht;rw[pj];simp
theorem kQ (l:List Int):(t.d_I64 l).length=l.length:=by subst ht;rw[fk];simp
theorem tu:t.d_I64 []=[]:=by subst ht;rfl
theorem ic (l:List Int) (i:Nat) (x:Int):(t.d_I64 (l.set i x)).length=(t.d_I64 l).length:=by subst ht;rw[fk,fk];simp
theorem wz {l l2:List Int} {n:Nat} (h:n=(t.d_I64 l).length) (h2:l2.length=l.length):n=(t.d_I64 l2).length:=by rw[h,kQ ht,kQ ht,h2]
theorem A8 (l:List Int):dc (t.d_I64 l)=true:=by subst ht;exact Er l
theorem kL {l:List Int} {n:Nat} (h:n=(t.d_I64 l).length):0+n≤(t.d_I64 l).length:=by omega
include hg
theorem jz {l:List Int} {i:Nat} {x:Int} (h:l[i]?=some x):(t.r_I64 l)[i]?=some (I64.rs t x):=by subst ht;rw[pj];exact iy _ h
theorem bD {l:List Int} {i:Nat} {x:Int} (h:l[i]?=some x):(t.d_I64 l)[i]?=some (I64.ds t x):=by subst ht;rw[fk];exact iy _ h
theorem fC {l:List Int} {i:Int} {k:Nat} {x:Int} (hi:i=((k:Nat):Int)) (h:l[k]?=some x):(t.r_I64 l)[g.nat i]?=some (I64.rs t x):=by
 subst hg;subst hi;exact jz rfl ht (by simpa [G.real] using h)
theorem fo (l:List Int):List.map (I64.ds t) l=t.d_I64 l:=by subst ht;rfl
theorem dX (l:List Int):l.length=g.dlen (t.d_I64 l):=by subst hg;subst ht;rw[fk];simp[G.real]
theorem ao (l:List Int):g.dlen (t.d_I64 l)=(t.d_I64 l).length:=by subst hg;rfl
theorem Ck (j:Int) (z:Int):g.drep j (I64.ds t z)=t.d_I64 (List.replicate (g.nat j) z):=by subst hg;subst ht;rw[fk];simp[G.real]
theorem Aw (j:Int) (z:Int):g.nat j=g.dlen (t.d_I64 (List.replicate (g.nat j) z)):=by subst hg;subst ht;rw[fk];simp[G.real]
theorem jI (l:List Int) (i:Nat) (x:Int):g.dset (t.d_I64 l) i (I64.ds t x)=t.d_I64 (l.set i x):=by subst hg;subst ht;rw[fk,fk];simp[G.real,List.map_set]
theorem oR {l m:List Int} {n:Nat} {news:List (List D)} (h1:n=(t.d_I64 l).length) (h2:news=t.d_I64 m):g.dapp (t.d_I64 l) n news=t.d_I64 (l++m):=by
 subst h1;subst h2;subst hg;subst ht;simp only[fk,G.real,List.map_append,List.take_length]
theorem mE {l m:List Int} {n:Nat} {news:List (List D)} (h1:n=(t.d_I64 l).length) (h2:news=t.d_I64 m):g.nadd n (g.dlen news)=g.dlen (t.d_I64 (l++m)):=by
 subst h1;subst h2;subst hg;subst ht;simp only[fk,G.real,List.map_append,List.length_append]
theorem jD {l m:List Int} {n b:Nat} {news:List (List D)} (h1:n=(t.d_I64 l).length) (h2:news=t.d_I64 m) (h:(l.length+m.length)*b≤70368744177664) (hb:0<b:=by decide):0=0∧n≤(t.d_I64 l).length∧n+news.length≤maxLen∧(n+news.length)*b≤140737488355328:=
 qM h1 (kQ ht l) (h2▸kQ ht m) hb h
theorem pw {m:List Int} {n:Nat} (h:n=(t.d_I64 m).length):g.dsub (t.d_I64 m) 0 n=t.d_I64 m:=by subst h;subst hg;simp[G.real]
theorem Ah (l:List Int):g.rda (t.d_I64 l)=t.r_I64 l:=by subst hg;subst ht;exact zH l
theorem Gb (l:List Int) (lo n:Nat):g.rd (t.d_I64 l) lo n=t.r_I64 (List.take n (List.drop lo l)):=by
 subst hg;subst ht
 rw[←zH,fk,fk]
 simp[G.real]
theorem m8 {l:List Int} {n:Nat} (h:n=(t.d_I64 l).length):g.rd (t.d_I64 l) 0 n=t.r_I64 l:=by rw[Gb hg ht,h,kQ ht];simp
theorem eV {l:List Int} {i:Int} {k:Nat} (hi:i=((k:Nat):Int)) (hc:k<l.length):g.lt i (g.llen (t.r_I64 l))=true:=by subst hg;simp[G.real,pK ht];omega
theorem ej {l:List Int} {i:Int} {k:Nat} (hi:i=((k:Nat):Int)) (hc:¬k<l.length):g.lt i (g.llen (t.r_I64 l))=false:=by subst hg;simp[G.real,pK ht];omega
theorem ib {l:List Int} {i:Int} {k:Nat} (hi:i=((k:Nat):Int)) (hc:k<l.length) (hm:(t.r_I64 l).length≤maxLen):g.wrap .i64 (g.add i 1)=((k+1:Nat):Int):=by
 subst hg;rw[pK ht] at hm;unfold maxLen at hm;simp only[G.real];rw[i64_in]<;>omega
@[simp] theorem sq (l:List Int):G.real.llen (TE.real.r_I64 l)=(l.length:Int):=by rw[pj];simp[G.real]
@[simp] theorem dT (l:List Int):G.real.dlen (TE.real.d_I64 l)=l.length:=by rw[fk];simp[G.real]
@[simp] theorem Gg (l:List Int):(TE.real.r_I64 l).length=l.length:=by rw[pj];simp
theorem yW (m:List Int):g.up (t.r_I64 m)=t.d_I64 m:=by subst hg;subst ht;rw[pj,fk];simp[G.real,I64.rs,I64.ds]
theorem wA {m:List Int} {n:Nat} (h:n=(t.d_I64 m).length):0+n≤(t.d_I64 m).length∧ku (((t.d_I64 m).drop 0).take n)=true:=by
 subst h;subst ht;refine⟨by omega,?_⟩
 simp only[List.drop_zero,List.take_length,fk];exact uR EG m
end
theorem Dl (x:Scan):ow (Scan.ds TE.real x)=true:=rfl
theorem lJ (l:List Scan):TE.real.r_Scan l=l.map (Scan.rs TE.real):=rfl
theorem dK (l:List Scan):TE.real.d_Scan l=l.map (Scan.ds TE.real):=rfl
theorem C6 (x:Scan):fu (Scan.ds TE.real x)=Scan.rs TE.real x:=by simp[Scan.ds,Scan.rs,fu,mo]
theorem wo (l:List Scan):toRdss (TE.real.d_Scan l)=TE.real.r_Scan l:=by rw[dK,lJ];exact jo C6 l
section
variable {g:G} {t:TE} (hg:g=G.real) (ht:t=TE.real)
include ht
theorem nM (l:List Scan):(t.r_Scan l).length=l.length:=by subst ht;rw[lJ];simp
theorem ir (l:List Scan):(t.d_Scan l).length=l.length:=by subst ht;rw[dK];simp
theorem gn (l:List Scan) (i:Nat) (x:Scan):(t.d_Scan (l.set i x)).length=(t.d_Scan l).length:=by subst ht;rw[dK,dK];simp
theorem pm {l l2:List Scan} {n:Nat} (h:n=(t.d_Scan l).length) (h2:l2.length=l.length):n=(t.d_Scan l2).length:=by rw[h,ir ht,ir ht,h2]
theorem mX {l:List Scan} {n:Nat} (h:n=(t.d_Scan l).length):0+n≤(t.d_Scan l).length:=by omega
include hg
theorem lE {l:List Scan} {i:Nat} {x:Scan} (h:l[i]?=some x):(t.r_Scan l)[i]?=some (Scan.rs t x):=by subst ht;rw[lJ];exact iy _ h
theorem aG {l:List Scan} {i:Nat} {x:Scan} (h:l[i]?=some x):(t.d_Scan l)[i]?=some (Scan.ds t x):=by subst ht;rw[dK];exact iy _ h
theorem dU {l:List Scan} {i:Int} {k:Nat} {x:Scan} (hi:i=((k:Nat):Int)) (h:l[k]?=some x):(t.r_Scan l)[g.nat i]?=some (Scan.rs t x):=by
 subst hg;subst hi;exact lE rfl ht (by simpa [G.real] using h)
theorem bX (l:List Scan):List.map (Scan.ds t) l=t.d_Scan l:=by subst ht;rfl
theorem bn (l:List Scan):l.length=g.dlen (t.d_Scan l):=by subst hg;subst ht;rw[dK];simp[G.real]
theorem aj (l:List Scan):g.dlen (t.d_Scan l)=(t.d_Scan l).length:=by subst hg;rfl
theorem An (j:Int) (z:Scan):g.drep j (Scan.ds t z)=t.d_Scan (List.replicate (g.nat j) z):=by subst hg;subst ht;rw[dK];simp[G.real]
theorem yx (j:Int) (z:Scan):g.nat j=g.dlen (t.d_Scan (List.replicate (g.nat j) z)):=by subst hg;subst ht;rw[dK];simp[G.real]
theorem iq (l:List Scan) (i:Nat) (x:Scan):g.dset (t.d_Scan l) i (Scan.ds t x)=t.d_Scan (l.set i x):=by subst hg;subst ht;rw[dK,dK];simp[G.real,List.map_set]
theorem dF {l m:List Scan} {n:Nat} {news:List (List D)} (h1:n=(t.d_Scan l).length) (h2:news=t.d_Scan m):g.dapp (t.d_Scan l) n news=t.d_Scan (l++m):=by
 subst h1;subst h2;subst hg;subst ht;simp only[dK,G.real,List.map_append,List.take_length]
theorem cG {l m:List Scan} {n:Nat} {news:List (List D)} (h1:n=(t.d_Scan l).length) (h2:news=t.d_Scan m):g.nadd n (g.dlen news)=g.dlen (t.d_Scan (l++m)):=by
 subst h1;subst h2;subst hg;subst ht;simp only[dK,G.real,List.map_append,List.length_append]
theorem bq {l m:List Scan} {n b:Nat} {news:List (List D)} (h1:n=(t.d_Scan l).length) (h2:news=t.d_Scan m) (h:(l.length+m.length)*b≤70368744177664) (hb:0<b:=by decide):0=0∧n≤(t.d_Scan l).length∧n+news.length≤maxLen∧(n+news.length)*b≤140737488355328:=
 qM h1 (ir ht l) (h2▸ir ht m) hb h
theorem vP (l:List Scan):g.rda (t.d_Scan l)=t.r_Scan l:=by subst hg;subst ht;exact wo l
theorem El (l:List Scan) (lo n:Nat):g.rd (t.d_Scan l) lo n=t.r_Scan (List.take n (List.drop lo l)):=by
 subst hg;subst ht
 rw[←wo,dK,dK]
 simp[G.real]
theorem oe {l:List Scan} {n:Nat} (h:n=(t.d_Scan l).length):g.rd (t.d_Scan l) 0 n=t.r_Scan l:=by rw[El hg ht,h,ir ht];simp
theorem BJ (l:List Scan) (a b:Int):g.rsub (t.r_Scan l) a b=t.r_Scan (List.drop (g.nat a) (List.take (g.nat b) l)):=by subst hg;subst ht;rw[lJ,lJ];simp[G.real]
theorem gi {l:List Scan} {i:Int} {k:Nat} (hi:i=((k:Nat):Int)) (hc:k<l.length):g.lt i (g.llen (t.r_Scan l))=true:=by subst hg;simp[G.real,nM ht];omega
theorem fM {l:List Scan} {i:Int} {k:Nat} (hi:i=((k:Nat):Int)) (hc:¬k<l.length):g.lt i (g.llen (t.r_Scan l))=false:=by subst hg;simp[G.real,nM ht];omega
theorem jP {l:List Scan} {i:Int} {k:Nat} (hi:i=((k:Nat):Int)) (hc:k<l.length) (hm:(t.r_Scan l).length≤maxLen):g.wrap .i64 (g.add i 1)=((k+1:Nat):Int):=by
 subst hg;rw[nM ht] at hm;unfold maxLen at hm;simp only[G.real];rw[i64_in]<;>omega
@[simp] theorem pp (l:List Scan):G.real.llen (TE.real.r_Scan l)=(l.length:Int):=by rw[lJ];simp[G.real]
@[simp] theorem bT (l:List Scan):G.real.dlen (TE.real.d_Scan l)=l.length:=by rw[dK];simp[G.real]
@[simp] theorem yb (l:List Scan):(TE.real.r_Scan l).length=l.length:=by rw[lJ];simp
theorem dR (m:List Scan) (lo n:Nat):g.dsub (t.d_Scan m) lo n=t.d_Scan (List.take n (List.drop lo m)):=by subst hg;subst ht;rw[dK,dK];simp[G.real]
theorem i6 {m:List Scan} {lo n:Nat} (h:lo+n≤m.length):lo+n≤(t.d_Scan m).length∧ku (((t.d_Scan m).drop lo).take n)=true:=by
 subst ht;refine⟨by rw[ir rfl];exact h,?_⟩
 rw[dK,←List.map_drop,←List.map_take];exact uR Dl _
end
theorem HY (x:ByteArray):ow (S.ds TE.real x)=true:=rfl
theorem CG (l:List ByteArray):TE.real.r_S l=l.map (S.rs TE.real):=rfl
theorem lS (l:List ByteArray):TE.real.d_S l=l.map (S.ds TE.real):=rfl
theorem HS (x:ByteArray):fu (S.ds TE.real x)=S.rs TE.real x:=by simp[S.ds,S.rs,fu,mo]
theorem GI (x:ByteArray):d9 (S.ds TE.real x)=true:=by simp[S.ds,d9,iV]
theorem EY (l:List ByteArray):toRdss (TE.real.d_S l)=TE.real.r_S l:=by rw[lS,CG];exact jo HS l
theorem Hf (l:List ByteArray):dc (TE.real.d_S l)=true:=by rw[lS];exact rF GI l
section
variable {g:G} {t:TE} (hg:g=G.real) (ht:t=TE.real)
include ht
theorem uP (l:List ByteArray):(t.r_S l).length=l.length:=by subst ht;rw[CG];simp
theorem mZ (l:List ByteArray):(t.d_S l).length=l.length:=by subst ht;rw[lS];simp
theorem Ac:t.d_S []=[]:=by subst ht;rfl
theorem Ea (l:List ByteArray) (i:Nat) (x:ByteArray):(t.d_S (l.set i x)).length=(t.d_S l).length:=by subst ht;rw[lS,lS];simp
theorem jM {l l2:List ByteArray} {n:Nat} (h:n=(t.d_S l).length) (h2:l2.length=l.length):n=(t.d_S l2).length:=by rw[h,mZ ht,mZ ht,h2]
theorem zz (l:List ByteArray):dc (t.d_S l)=true:=by subst ht;exact Hf l
theorem dN {l:List ByteArray} {n:Nat} (h:n=(t.d_S l).length):0+n≤(t.d_S l).length:=by omega
include hg
theorem zF {l:List ByteArray} {i:Nat} {x:ByteArray} (h:l[i]?=some x):(t.r_S l)[i]?=some (S.rs t x):=by subst ht;rw[CG];exact iy _ h
theorem fW {l:List ByteArray} {i:Nat} {x:ByteArray} (h:l[i]?=some x):(t.d_S l)[i]?=some (S.ds t x):=by subst ht;rw[lS];exact iy _ h
theorem oP {l:List ByteArray} {i:Int} {k:Nat} {x:ByteArray} (hi:i=((k:Nat):Int)) (h:l[k]?=some x):(t.r_S l)[g.nat i]?=some (S.rs t x):=by
 subst hg;subst hi;exact zF rfl ht (by simpa [G.real] using h)
theorem gY (l:List ByteArray):List.map (S.ds t) l=t.d_S l:=by subst ht;rfl
theorem fm (l:List ByteArray):l.length=g.dlen (t.d_S l):=by subst hg;subst ht;rw[lS];simp[G.real]
theorem al (l:List ByteArray):g.dlen (t.d_S l)=(t.d_S l).length:=by subst hg;rfl
theorem ln:g.dlen (t.d_S [])=0:=by subst hg;subst ht;rfl
theorem FB (l:List ByteArray) (i:Nat) (x:ByteArray):g.dset (t.d_S l) i (S.ds t x)=t.d_S (l.set i x):=by subst hg;subst ht;rw[lS,lS];simp[G.real,List.map_set]
theorem iO {l m:List ByteArray} {n:Nat} {news:List (List D)} (h1:n=(t.d_S l).length) (h2:news=t.d_S m):g.dapp (t.d_S l) n news=t.d_S (l++m):=by
 subst h1;subst h2;subst hg;subst ht;simp only[lS,G.real,List.map_append,List.take_length]
theorem fA {l m:List ByteArray} {n:Nat} {news:List (List D)} (h1:n=(t.d_S l).length) (h2:news=t.d_S m):g.nadd n (g.dlen news)=g.dlen (t.d_S (l++m)):=by
 subst h1;subst h2;subst hg;subst ht;simp only[lS,G.real,List.map_append,List.length_append]
theorem cU {l m:List ByteArray} {n b:Nat} {news:List (List D)} (h1:n=(t.d_S l).length) (h2:news=t.d_S m) (h:(l.length+m.length)*b≤70368744177664) (hb:0<b:=by decide):0=0∧n≤(t.d_S l).length∧n+news.length≤maxLen∧(n+news.length)*b≤140737488355328:=
 qM h1 (mZ ht l) (h2▸mZ ht m) hb h
theorem E0 (l:List ByteArray):g.rda (t.d_S l)=t.r_S l:=by subst hg;subst ht;exact EY l
theorem rd_S (l:List ByteArray) (lo n:Nat):g.rd (t.d_S l) lo n=t.r_S (List.take n (List.drop lo l)):=by
 subst hg;subst ht
 rw[←EY,lS,lS]
 simp[G.real]
theorem f7 {l:List ByteArray} {n:Nat} (h:n=(t.d_S l).length):g.rd (t.d_S l) 0 n=t.r_S l:=by rw[rd_S hg ht,h,mZ ht];simp
theorem jS {l:List ByteArray} {i:Int} {k:Nat} (hi:i=((k:Nat):Int)) (hc:k<l.length):g.lt i (g.llen (t.r_S l))=true:=by subst hg;simp[G.real,uP ht];omega
theorem iH {l:List ByteArray} {i:Int} {k:Nat} (hi:i=((k:Nat):Int)) (hc:¬k<l.length):g.lt i (g.llen (t.r_S l))=false:=by subst hg;simp[G.real,uP ht];omega
theorem oO {l:List ByteArray} {i:Int} {k:Nat} (hi:i=((k:Nat):Int)) (hc:k<l.length) (hm:(t.r_S l).length≤maxLen):g.wrap .i64 (g.add i 1)=((k+1:Nat):Int):=by
 subst hg;rw[uP ht] at hm;unfold maxLen at hm;simp only[G.real];rw[i64_in]<;>omega
@[simp] theorem llen_S (l:List ByteArray):G.real.llen (TE.real.r_S l)=(l.length:Int):=by rw[CG];simp[G.real]
@[simp] theorem fQ (l:List ByteArray):G.real.dlen (TE.real.d_S l)=l.length:=by rw[lS];simp[G.real]
@[simp] theorem rlenx_S (l:List ByteArray):(TE.real.r_S l).length=l.length:=by rw[CG];simp
theorem dh (m:List ByteArray) (lo n:Nat):g.dsub (t.d_S m) lo n=t.d_S (List.take n (List.drop lo m)):=by subst hg;subst ht;rw[lS,lS];simp[G.real]
theorem gC {m:List ByteArray} {lo n:Nat} (h:lo+n≤m.length):lo+n≤(t.d_S m).length∧ku (((t.d_S m).drop lo).take n)=true:=by
 subst ht;refine⟨by rw[mZ rfl];exact h,?_⟩
 rw[lS,←List.map_drop,←List.map_take];exact uR HY _
end
theorem oG (l:List Trip):TE.real.r_Trip l=l.map (Trip.rs TE.real):=rfl
theorem fv (l:List Trip):TE.real.d_Trip l=l.map (Trip.ds TE.real):=rfl
theorem Dy (x:Trip):fu (Trip.ds TE.real x)=Trip.rs TE.real x:=by simp[Trip.ds,Trip.rs,fu,mo]
theorem CU (x:Trip):d9 (Trip.ds TE.real x)=true:=by simp[Trip.ds,d9,iV]
theorem vK (l:List Trip):toRdss (TE.real.d_Trip l)=TE.real.r_Trip l:=by rw[fv,oG];exact jo Dy l
theorem BZ (l:List Trip):dc (TE.real.d_Trip l)=true:=by rw[fv];exact rF CU l
section
variable {g:G} {t:TE} (hg:g=G.real) (ht:t=TE.real)
include ht
theorem nB (l:List Trip):(t.r_Trip l).length=l.length:=by subst ht;rw[oG];simp
theorem jK (l:List Trip):(t.d_Trip l).length=l.length:=by subst ht;rw[fv];simp
theorem sF:t.d_Trip []=[]:=by subst ht;rfl
theorem sN (l:List Trip) (i:Nat) (x:Trip):(t.d_Trip (l.set i x)).length=(t.d_Trip l).length:=by subst ht;rw[fv,fv];simp
theorem jB {l l2:List Trip} {n:Nat} (h:n=(t.d_Trip l).length) (h2:l2.length=l.length):n=(t.d_Trip l2).length:=by rw[h,jK ht,jK ht,h2]
theorem yQ (l:List Trip):dc (t.d_Trip l)=true:=by subst ht;exact BZ l
theorem mR {l:List Trip} {n:Nat} (h:n=(t.d_Trip l).length):0+n≤(t.d_Trip l).length:=by omega
include hg
theorem sI {l:List Trip} {i:Nat} {x:Trip} (h:l[i]?=some x):(t.r_Trip l)[i]?=some (Trip.rs t x):=by subst ht;rw[oG];exact iy _ h
theorem sH {l:List Trip} {i:Nat} {x:Trip} (h:l[i]?=some x):(t.d_Trip l)[i]?=some (Trip.ds t x):=by subst ht;rw[fv];exact iy _ h
theorem ml {l:List Trip} {i:Int} {k:Nat} {x:Trip} (hi:i=((k:Nat):Int)) (h:l[k]?=some x):(t.r_Trip l)[g.nat i]?=some (Trip.rs t x):=by
 subst hg;subst hi;exact sI rfl ht (by simpa [G.real] using h)
theorem wS (l:List Trip):List.map (Trip.ds t) l=t.d_Trip l:=by subst ht;rfl
theorem ud (l:List Trip):l.length=g.dlen (t.d_Trip l):=by subst hg;subst ht;rw[fv];simp[G.real]
theorem a7 (l:List Trip):g.dlen (t.d_Trip l)=(t.d_Trip l).length:=by subst hg;rfl
theorem iz:g.dlen (t.d_Trip [])=0:=by subst hg;subst ht;rfl
theorem tn (l:List Trip) (i:Nat) (x:Trip):g.dset (t.d_Trip l) i (Trip.ds t x)=t.d_Trip (l.set i x):=by subst hg;subst ht;rw[fv,fv];simp[G.real,List.map_set]
theorem we {l m:List Trip} {n:Nat} {news:List (List D)} (h1:n=(t.d_Trip l).length) (h2:news=t.d_Trip m):g.dapp (t.d_Trip l) n news=t.d_Trip (l++m):=by
 subst h1;subst h2;subst hg;subst ht;simp only[fv,G.real,List.map_append,List.take_length]
theorem tM {l m:List Trip} {n:Nat} {news:List (List D)} (h1:n=(t.d_Trip l).length) (h2:news=t.d_Trip m):g.nadd n (g.dlen news)=g.dlen (t.d_Trip (l++m)):=by
 subst h1;subst h2;subst hg;subst ht;simp only[fv,G.real,List.map_append,List.length_append]
theorem qr {l m:List Trip} {n b:Nat} {news:List (List D)} (h1:n=(t.d_Trip l).length) (h2:news=t.d_Trip m) (h:(l.length+m.length)*b≤70368744177664) (hb:0<b:=by decide):0=0∧n≤(t.d_Trip l).length∧n+news.length≤maxLen∧(n+news.length)*b≤140737488355328:=
 qM h1 (jK ht l) (h2▸jK ht m) hb h
theorem Cm (l:List Trip):g.rda (t.d_Trip l)=t.r_Trip l:=by subst hg;subst ht;exact vK l
theorem D1 (l:List Trip) (lo n:Nat):g.rd (t.d_Trip l) lo n=t.r_Trip (List.take n (List.drop lo l)):=by
 subst hg;subst ht
 rw[←vK,fv,fv]
 simp[G.real]
theorem oQ {l:List Trip} {n:Nat} (h:n=(t.d_Trip l).length):g.rd (t.d_Trip l) 0 n=t.r_Trip l:=by rw[D1 hg ht,h,jK ht];simp
theorem nl {l:List Trip} {i:Int} {k:Nat} (hi:i=((k:Nat):Int)) (hc:k<l.length):g.lt i (g.llen (t.r_Trip l))=true:=by subst hg;simp[G.real,nB ht];omega
theorem mb {l:List Trip} {i:Int} {k:Nat} (hi:i=((k:Nat):Int)) (hc:¬k<l.length):g.lt i (g.llen (t.r_Trip l))=false:=by subst hg;simp[G.real,nB ht];omega
theorem sc {l:List Trip} {i:Int} {k:Nat} (hi:i=((k:Nat):Int)) (hc:k<l.length) (hm:(t.r_Trip l).length≤maxLen):g.wrap .i64 (g.add i 1)=((k+1:Nat):Int):=by
 subst hg;rw[nB ht] at hm;unfold maxLen at hm;simp only[G.real];rw[i64_in]<;>omega
@[simp] theorem Gh (l:List Trip):G.real.llen (TE.real.r_Trip l)=(l.length:Int):=by rw[oG];simp[G.real]
@[simp] theorem jC (l:List Trip):G.real.dlen (TE.real.d_Trip l)=l.length:=by rw[fv];simp[G.real]
@[simp] theorem Fm (l:List Trip):(TE.real.r_Trip l).length=l.length:=by rw[oG];simp
end
theorem CH (l:List Int):TE.real.r_U8 l=l.map (U8.rs TE.real):=rfl
theorem tT (l:List Int):TE.real.d_U8 l=l.map (U8.ds TE.real):=rfl
theorem FW (x:Int):fu (U8.ds TE.real x)=U8.rs TE.real x:=by simp[U8.ds,U8.rs,fu,mo]
theorem Gc (l:List Int):toRdss (TE.real.d_U8 l)=TE.real.r_U8 l:=by rw[tT,CH];exact jo FW l
section
variable {g:G} {t:TE} (hg:g=G.real) (ht:t=TE.real)
include ht
theorem DS (l:List Int):(t.d_U8 l).length=l.length:=by subst ht;rw[tT];simp
theorem Eu {l:List Int} {n:Nat} (h:n=(t.d_U8 l).length):0+n≤(t.d_U8 l).length:=by omega
include hg
theorem FN (l:List Int):List.map (U8.ds t) l=t.d_U8 l:=by subst ht;rfl
theorem D9 (l:List Int):l.length=g.dlen (t.d_U8 l):=by subst hg;subst ht;rw[tT];simp[G.real]
theorem zx (l:List Int):g.dlen (t.d_U8 l)=(t.d_U8 l).length:=by subst hg;rfl
theorem GV (l:List Int) (lo n:Nat):g.rd (t.d_U8 l) lo n=t.r_U8 (List.take n (List.drop lo l)):=by
 subst hg;subst ht
 rw[←Gc,tT,tT]
 simp[G.real]
theorem Fp {l:List Int} {n:Nat} (h:n=(t.d_U8 l).length):g.rd (t.d_U8 l) 0 n=t.r_U8 l:=by rw[GV hg ht,h,DS ht];simp
@[simp] theorem llen_U8 (l:List Int):G.real.llen (TE.real.r_U8 l)=(l.length:Int):=by rw[CH];simp[G.real]
@[simp] theorem Ib (l:List Int):G.real.dlen (TE.real.d_U8 l)=l.length:=by rw[tT];simp[G.real]
@[simp] theorem HP (l:List Int):(TE.real.r_U8 l).length=l.length:=by rw[CH];simp
end
end Go.Vs
