/- Part of the proofs of this seat's laws: Ty. No condition. -/
import Derived.Test.YticpmdigfdpmfaaVf
set_option linter.unusedVariables false
set_option linter.unusedSimpArgs false
set_option linter.unusedSectionVars false
namespace Go.Vs
open Go.IntWalk
set_option linter.unusedVariables false
set_option linter.unusedSimpArgs false
set_option linter.unusedSectionVars false
structure Trip where
 Leg:Int
 Day:Int
structure Booking where
 Thing:Int
 Trip:Trip
 Weight:Int
structure Leg where
 From:ByteArray
 To:ByteArray
 Start:Int
 Takes:Int
 Days:Int
 Room:Int
structure Network where
 Legs:List Leg
 Off:List Int
 Change:Int
structure Cur where
 b:List Int
 i:Int
 h:Int
def rU8 (l:List Int):List (List R):=l.map fun x=>[.v (.int .u8 x)]
def dU8 (l:List Int):List (List D):=l.map fun x=>[.r (.v (.int .u8 x))]
def sn (l:List Booking):List (List R):=l.map fun x=>[.v (.int .i64 x.Thing),.v (.int .i64 x.Trip.Leg),.v (.int .i64 x.Trip.Day),.v (.int .i64 x.Weight)]
def xu (l:List Booking):List (List D):=l.map fun x=>[.r (.v (.int .i64 x.Thing)),.r (.v (.int .i64 x.Trip.Leg)),.r (.v (.int .i64 x.Trip.Day)),.r (.v (.int .i64 x.Weight))]
def zY (l:List Leg):List (List R):=l.map fun x=>[.v (.string x.From),.v (.string x.To),.v (.int .i64 x.Start),.v (.int .i64 x.Takes),.v (.int .i64 x.Days),.v (.int .i64 x.Room)]
def dLeg (l:List Leg):List (List D):=l.map fun x=>[.r (.v (.string x.From)),.r (.v (.string x.To)),.r (.v (.int .i64 x.Start)),.r (.v (.int .i64 x.Takes)),.r (.v (.int .i64 x.Days)),.r (.v (.int .i64 x.Room))]
def yP (l:List Int):List (List R):=l.map fun x=>[.v (.int .i64 x)]
def Bj (l:List Int):List (List D):=l.map fun x=>[.r (.v (.int .i64 x))]
def zE (l:List Trip):List (List R):=l.map fun x=>[.v (.int .i64 x.Leg),.v (.int .i64 x.Day)]
def Bk (l:List Trip):List (List D):=l.map fun x=>[.r (.v (.int .i64 x.Leg)),.r (.v (.int .i64 x.Day))]
def Bo (l:List (List Int)):List (List R):=l.map fun x=>[.s 1 (yP x)]
def Bd (l:List (List Int)):List (List D):=l.map fun x=>[.o 1 (Bj x)]
def rS (l:List ByteArray):List (List R):=l.map fun x=>[.v (.string x)]
def dS (l:List ByteArray):List (List D):=l.map fun x=>[.r (.v (.string x))]
inductive Fd where
 |I_freeOf_1 (a0:Network) (a1:List Trip) (a2:List Booking) (a3:Int)
 |I_nextOf_1 (a0:Network)
def rFd:Fd→R
 |.I_freeOf_1 a0 a1 a2 a3=>.fn 42 [[.s 6 (zY a0.Legs),.s 1 (yP a0.Off),.v (.int .i64 a0.Change)],[.s 2 (zE a1)],[.s 4 (sn a2)],[.v (.int .i64 a3)]]
 |.I_nextOf_1 a0=>.fn 53 [[.s 6 (zY a0.Legs),.s 1 (yP a0.Off),.v (.int .i64 a0.Change)]]
structure TE where
 r_U8:List Int→List (List R)
 d_U8:List Int→List (List D)
 r_Booking:List Booking→List (List R)
 d_Booking:List Booking→List (List D)
 r_Leg:List Leg→List (List R)
 d_Leg:List Leg→List (List D)
 r_I64:List Int→List (List R)
 d_I64:List Int→List (List D)
 r_Trip:List Trip→List (List R)
 d_Trip:List Trip→List (List D)
 r_LI64:List (List Int)→List (List R)
 d_LI64:List (List Int)→List (List D)
 r_S:List ByteArray→List (List R)
 d_S:List ByteArray→List (List D)
 r_Fd:Fd→R
def TE.real:TE:=⟨rU8,dU8,sn,xu,zY,dLeg,yP,Bj,zE,Bk,Bo,Bd,rS,dS,rFd⟩
theorem jr {t:TE} (ht:t=TE.real) (a0:Network) (a1:List Trip) (a2:List Booking) (a3:Int):R.fn 42 [[.s 6 (t.r_Leg a0.Legs),.s 1 (t.r_I64 a0.Off),.v (.int .i64 a0.Change)],[.s 2 (t.r_Trip a1)],[.s 4 (t.r_Booking a2)],[.v (.int .i64 a3)]]=t.r_Fd (.I_freeOf_1 a0 a1 a2 a3):=by subst ht;rfl
theorem i9 {t:TE} (ht:t=TE.real) (a0:Network):R.fn 53 [[.s 6 (t.r_Leg a0.Legs),.s 1 (t.r_I64 a0.Off),.v (.int .i64 a0.Change)]]=t.r_Fd (.I_nextOf_1 a0):=by subst ht;rfl
def Trip.rs (t:TE) (x:Trip):List R:=[.v (.int .i64 x.Leg),.v (.int .i64 x.Day)]
def Trip.ds (t:TE) (x:Trip):List D:=[.r (.v (.int .i64 x.Leg)),.r (.v (.int .i64 x.Day))]
def Booking.rs (t:TE) (x:Booking):List R:=[.v (.int .i64 x.Thing),.v (.int .i64 x.Trip.Leg),.v (.int .i64 x.Trip.Day),.v (.int .i64 x.Weight)]
def Booking.ds (t:TE) (x:Booking):List D:=[.r (.v (.int .i64 x.Thing)),.r (.v (.int .i64 x.Trip.Leg)),.r (.v (.int .i64 x.Trip.Day)),.r (.v (.int .i64 x.Weight))]
def Leg.rs (t:TE) (x:Leg):List R:=[.v (.string x.From),.v (.string x.To),.v (.int .i64 x.Start),.v (.int .i64 x.Takes),.v (.int .i64 x.Days),.v (.int .i64 x.Room)]
def Leg.ds (t:TE) (x:Leg):List D:=[.r (.v (.string x.From)),.r (.v (.string x.To)),.r (.v (.int .i64 x.Start)),.r (.v (.int .i64 x.Takes)),.r (.v (.int .i64 x.Days)),.r (.v (.int .i64 x.Room))]
def Network.rs (t:TE) (x:Network):List R:=[.s 6 (t.r_Leg x.Legs),.s 1 (t.r_I64 x.Off),.v (.int .i64 x.Change)]
def Network.ds (t:TE) (x:Network):List D:=[.o 6 (t.d_Leg x.Legs),.o 1 (t.d_I64 x.Off),.r (.v (.int .i64 x.Change))]
def Cur.rs (t:TE) (x:Cur):List R:=[.s 1 (t.r_U8 x.b),.v (.int .i64 x.i),.v (.int .i64 x.h)]
def Cur.ds (t:TE) (x:Cur):List D:=[.r (.s 1 (t.r_U8 x.b)),.r (.v (.int .i64 x.i)),.r (.v (.int .i64 x.h))]
def U8.rs (t:TE) (x:Int):List R:=[.v (.int .u8 x)]
def U8.ds (t:TE) (x:Int):List D:=[.r (.v (.int .u8 x))]
def I64.rs (t:TE) (x:Int):List R:=[.v (.int .i64 x)]
def I64.ds (t:TE) (x:Int):List D:=[.r (.v (.int .i64 x))]
def LI64.rs (t:TE) (x:List Int):List R:=[.s 1 (t.r_I64 x)]
def LI64.ds (t:TE) (x:List Int):List D:=[.o 1 (t.d_I64 x)]
def S.rs (t:TE) (x:ByteArray):List R:=[.v (.string x)]
def S.ds (t:TE) (x:ByteArray):List D:=[.r (.v (.string x))]
theorem eg {α β:Type} (f:α→β) {l:List α} {i:Nat} {x:α} (h:l[i]?=some x):(l.map f)[i]?=some (f x):=by rw[List.getElem?_map,h];rfl
theorem g9 {α:Type} {f:α→List D} {q:α→List R} (h:∀x,d7 (f x)=q x) (l:List α):toRdss (l.map f)=l.map q:=by
 induction l with
 |nil=>rfl
 |cons x l ih=>simp only[List.map_cons,toRdss,h,ih]
theorem nO {α:Type} {f:α→List D} (h:∀x,bB (f x)=true) (l:List α):bQ (l.map f)=true:=by
 induction l with
 |nil=>rfl
 |cons x l ih=>simp only[List.map_cons,bQ,h,ih,Bool.and_self]
theorem qZ {α:Type} {f:α→List D} (h:∀x,lp (f x)=true) (l:List α):gS (l.map f)=true:=by
 induction l with
 |nil=>rfl
 |cons x l ih=>simp only[List.map_cons,gS,h,ih,Bool.and_self]
theorem vb (l:List Int):TE.real.r_U8 l=l.map (U8.rs TE.real):=rfl
theorem AW (l:List Int):TE.real.d_U8 l=l.map (U8.ds TE.real):=rfl
section
variable {g:G} {t:TE} (hg:g=G.real) (ht:t=TE.real)
include ht
theorem pj (l:List Int):(t.r_U8 l).length=l.length:=by subst ht;rw[vb];simp
theorem wN:t.d_U8 []=[]:=by subst ht;rfl
include hg
theorem rT {l:List Int} {i:Nat} {x:Int} (h:l[i]?=some x):(t.r_U8 l)[i]?=some (U8.rs t x):=by subst ht;rw[vb];exact eg _ h
theorem vM {l:List Int} {i:Int} {k:Nat} {x:Int} (hi:i=((k:Nat):Int)) (h:l[k]?=some x):(t.r_U8 l)[g.nat i]?=some (U8.rs t x):=by
 subst hg;subst hi;exact rT rfl ht (by simpa [G.real] using h)
theorem rH {l:List Int} {i:Int} {k:Nat} (hi:i=((k:Nat):Int)) (hc:k<l.length):g.lt i (g.llen (t.r_U8 l))=true:=by subst hg;simp[G.real,pj ht];omega
theorem qQ {l:List Int} {i:Int} {k:Nat} (hi:i=((k:Nat):Int)) (hc:¬k<l.length):g.lt i (g.llen (t.r_U8 l))=false:=by subst hg;simp[G.real,pj ht];omega
theorem xY {l:List Int} {i:Int} {k:Nat} (hi:i=((k:Nat):Int)) (hc:k<l.length) (hm:(t.r_U8 l).length≤maxLen):g.wrap .i64 (g.add i 1)=((k+1:Nat):Int):=by
 subst hg;rw[pj ht] at hm;unfold maxLen at hm;simp only[G.real];rw[i64_in]<;>omega
@[simp] theorem zB (l:List Int):G.real.llen (TE.real.r_U8 l)=(l.length:Int):=by rw[vb];simp[G.real]
@[simp] theorem Br (l:List Int):G.real.dlen (TE.real.d_U8 l)=l.length:=by rw[AW];simp[G.real]
@[simp] theorem A4 (l:List Int):(TE.real.r_U8 l).length=l.length:=by rw[vb];simp
end
theorem dG (l:List Booking):TE.real.r_Booking l=l.map (Booking.rs TE.real):=rfl
theorem bi (l:List Booking):TE.real.d_Booking l=l.map (Booking.ds TE.real):=rfl
theorem tp (x:Booking):d7 (Booking.ds TE.real x)=Booking.rs TE.real x:=by simp[Booking.ds,Booking.rs,d7,j6]
theorem sO (x:Booking):bB (Booking.ds TE.real x)=true:=by simp[Booking.ds,bB,dQ]
theorem mJ (l:List Booking):toRdss (TE.real.d_Booking l)=TE.real.r_Booking l:=by rw[bi,dG];exact g9 tp l
theorem tj (l:List Booking):bQ (TE.real.d_Booking l)=true:=by rw[bi];exact nO sO l
section
variable {g:G} {t:TE} (hg:g=G.real) (ht:t=TE.real)
include ht
theorem gV (l:List Booking):(t.r_Booking l).length=l.length:=by subst ht;rw[dG];simp
theorem gQ (l:List Booking):(t.d_Booking l).length=l.length:=by subst ht;rw[bi];simp
theorem pC:t.d_Booking []=[]:=by subst ht;rfl
theorem fC (l:List Booking) (i:Nat) (x:Booking):(t.d_Booking (l.set i x)).length=(t.d_Booking l).length:=by subst ht;rw[bi,bi];simp
theorem ke (l:List Booking):bQ (t.d_Booking l)=true:=by subst ht;exact tj l
theorem dU {l:List Booking} {n:Nat} (h:n=(t.d_Booking l).length):0+n≤(t.d_Booking l).length:=by omega
include hg
theorem gW {l:List Booking} {i:Nat} {x:Booking} (h:l[i]?=some x):(t.r_Booking l)[i]?=some (Booking.rs t x):=by subst ht;rw[dG];exact eg _ h
theorem dv {l:List Booking} {i:Nat} {x:Booking} (h:l[i]?=some x):(t.d_Booking l)[i]?=some (Booking.ds t x):=by subst ht;rw[bi];exact eg _ h
theorem bP {l:List Booking} {i:Int} {k:Nat} {x:Booking} (hi:i=((k:Nat):Int)) (h:l[k]?=some x):(t.r_Booking l)[g.nat i]?=some (Booking.rs t x):=by
 subst hg;subst hi;exact gW rfl ht (by simpa [G.real] using h)
theorem fM (l:List Booking):List.map (Booking.ds t) l=t.d_Booking l:=by subst ht;rfl
theorem eO (l:List Booking):l.length=g.dlen (t.d_Booking l):=by subst hg;subst ht;rw[bi];simp[G.real]
theorem ai (l:List Booking):g.dlen (t.d_Booking l)=(t.d_Booking l).length:=by subst hg;rfl
theorem gc (l:List Booking) (i:Nat) (x:Booking):g.dset (t.d_Booking l) i (Booking.ds t x)=t.d_Booking (l.set i x):=by subst hg;subst ht;rw[bi,bi];simp[G.real,List.map_set]
theorem gE {l m:List Booking} {n:Nat} {news:List (List D)} (h1:n=(t.d_Booking l).length) (h2:news=t.d_Booking m):g.dapp (t.d_Booking l) n news=t.d_Booking (l++m):=by
 subst h1;subst h2;subst hg;subst ht;simp only[bi,G.real,List.map_append,List.take_length]
theorem fZ {l m:List Booking} {n:Nat} {news:List (List D)} (h1:n=(t.d_Booking l).length) (h2:news=t.d_Booking m):g.nadd n (g.dlen news)=g.dlen (t.d_Booking (l++m)):=by
 subst h1;subst h2;subst hg;subst ht;simp only[bi,G.real,List.map_append,List.length_append]
theorem eR {l m:List Booking} {n b:Nat} {news:List (List D)} (h1:n=(t.d_Booking l).length) (h2:news=t.d_Booking m) (h:(l.length+m.length)*b≤70368744177664) (hb:0<b:=by decide):0=0∧n≤(t.d_Booking l).length∧n+news.length≤maxLen∧(n+news.length)*b≤140737488355328:=
 jR h1 (gQ ht l) (h2▸gQ ht m) hb h
theorem nn (l:List Booking):g.rda (t.d_Booking l)=t.r_Booking l:=by subst hg;subst ht;exact mJ l
theorem uc (l:List Booking) (lo n:Nat):g.rd (t.d_Booking l) lo n=t.r_Booking (List.take n (List.drop lo l)):=by
 subst hg;subst ht
 rw[←mJ,bi,bi]
 simp[G.real]
theorem eF {l:List Booking} {n:Nat} (h:n=(t.d_Booking l).length):g.rd (t.d_Booking l) 0 n=t.r_Booking l:=by rw[uc hg ht,h,gQ ht];simp
theorem lT (l:List Booking) (a b:Int):g.rsub (t.r_Booking l) a b=t.r_Booking (List.drop (g.nat a) (List.take (g.nat b) l)):=by subst hg;subst ht;rw[dG,dG];simp[G.real]
theorem cr {l:List Booking} {i:Int} {k:Nat} (hi:i=((k:Nat):Int)) (hc:k<l.length):g.lt i (g.llen (t.r_Booking l))=true:=by subst hg;simp[G.real,gV ht];omega
theorem bS {l:List Booking} {i:Int} {k:Nat} (hi:i=((k:Nat):Int)) (hc:¬k<l.length):g.lt i (g.llen (t.r_Booking l))=false:=by subst hg;simp[G.real,gV ht];omega
theorem du {l:List Booking} {i:Int} {k:Nat} (hi:i=((k:Nat):Int)) (hc:k<l.length) (hm:(t.r_Booking l).length≤maxLen):g.wrap .i64 (g.add i 1)=((k+1:Nat):Int):=by
 subst hg;rw[gV ht] at hm;unfold maxLen at hm;simp only[G.real];rw[i64_in]<;>omega
@[simp] theorem iM (l:List Booking):G.real.llen (TE.real.r_Booking l)=(l.length:Int):=by rw[dG];simp[G.real]
@[simp] theorem pA (l:List Booking):G.real.dlen (TE.real.d_Booking l)=l.length:=by rw[bi];simp[G.real]
@[simp] theorem pE (l:List Booking):(TE.real.r_Booking l).length=l.length:=by rw[dG];simp
theorem fm (m:List Booking):g.up (t.r_Booking m)=t.d_Booking m:=by subst hg;subst ht;rw[dG,bi];simp[G.real,Booking.rs,Booking.ds]
end
theorem o6 (l:List Leg):TE.real.r_Leg l=l.map (Leg.rs TE.real):=rfl
theorem kx (l:List Leg):TE.real.d_Leg l=l.map (Leg.ds TE.real):=rfl
theorem zo (x:Leg):d7 (Leg.ds TE.real x)=Leg.rs TE.real x:=by simp[Leg.ds,Leg.rs,d7,j6]
theorem zf (l:List Leg):toRdss (TE.real.d_Leg l)=TE.real.r_Leg l:=by rw[kx,o6];exact g9 zo l
section
variable {g:G} {t:TE} (hg:g=G.real) (ht:t=TE.real)
include ht
theorem ma (l:List Leg):(t.r_Leg l).length=l.length:=by subst ht;rw[o6];simp
theorem qt (l:List Leg):(t.d_Leg l).length=l.length:=by subst ht;rw[kx];simp
theorem pR:t.d_Leg []=[]:=by subst ht;rfl
include hg
theorem bA {l:List Leg} {i:Nat} {x:Leg} (h:l[i]?=some x):(t.r_Leg l)[i]?=some (Leg.rs t x):=by subst ht;rw[o6];exact eg _ h
theorem qk {l:List Leg} {i:Nat} {x:Leg} (h:l[i]?=some x):(t.d_Leg l)[i]?=some (Leg.ds t x):=by subst ht;rw[kx];exact eg _ h
theorem cS {l:List Leg} {i:Int} {k:Nat} {x:Leg} (hi:i=((k:Nat):Int)) (h:l[k]?=some x):(t.r_Leg l)[g.nat i]?=some (Leg.rs t x):=by
 subst hg;subst hi;exact bA rfl ht (by simpa [G.real] using h)
theorem uu (l:List Leg):List.map (Leg.ds t) l=t.d_Leg l:=by subst ht;rfl
theorem sX (l:List Leg):l.length=g.dlen (t.d_Leg l):=by subst hg;subst ht;rw[kx];simp[G.real]
theorem ed (l:List Leg):g.dlen (t.d_Leg l)=(t.d_Leg l).length:=by subst hg;rfl
theorem kY:g.dlen (t.d_Leg [])=0:=by subst hg;subst ht;rfl
theorem uZ {l m:List Leg} {n:Nat} {news:List (List D)} (h1:n=(t.d_Leg l).length) (h2:news=t.d_Leg m):g.dapp (t.d_Leg l) n news=t.d_Leg (l++m):=by
 subst h1;subst h2;subst hg;subst ht;simp only[kx,G.real,List.map_append,List.take_length]
theorem te {l m:List Leg} {n:Nat} {news:List (List D)} (h1:n=(t.d_Leg l).length) (h2:news=t.d_Leg m):g.nadd n (g.dlen news)=g.dlen (t.d_Leg (l++m)):=by
 subst h1;subst h2;subst hg;subst ht;simp only[kx,G.real,List.map_append,List.length_append]
theorem oM {l m:List Leg} {n b:Nat} {news:List (List D)} (h1:n=(t.d_Leg l).length) (h2:news=t.d_Leg m) (h:(l.length+m.length)*b≤70368744177664) (hb:0<b:=by decide):0=0∧n≤(t.d_Leg l).length∧n+news.length≤maxLen∧(n+news.length)*b≤140737488355328:=
 jR h1 (qt ht l) (h2▸qt ht m) hb h
theorem uG (l:List Leg):g.rda (t.d_Leg l)=t.r_Leg l:=by subst hg;subst ht;exact zf l
theorem cC {l:List Leg} {i:Int} {k:Nat} (hi:i=((k:Nat):Int)) (hc:k<l.length):g.lt i (g.llen (t.r_Leg l))=true:=by subst hg;simp[G.real,ma ht];omega
theorem cf {l:List Leg} {i:Int} {k:Nat} (hi:i=((k:Nat):Int)) (hc:¬k<l.length):g.lt i (g.llen (t.r_Leg l))=false:=by subst hg;simp[G.real,ma ht];omega
theorem eI {l:List Leg} {i:Int} {k:Nat} (hi:i=((k:Nat):Int)) (hc:k<l.length) (hm:(t.r_Leg l).length≤maxLen):g.wrap .i64 (g.add i 1)=((k+1:Nat):Int):=by
 subst hg;rw[ma ht] at hm;unfold maxLen at hm;simp only[G.real];rw[i64_in]<;>omega
@[simp] theorem nR (l:List Leg):G.real.llen (TE.real.r_Leg l)=(l.length:Int):=by rw[o6];simp[G.real]
@[simp] theorem wD (l:List Leg):G.real.dlen (TE.real.d_Leg l)=l.length:=by rw[kx];simp[G.real]
@[simp] theorem AT (l:List Leg):(TE.real.r_Leg l).length=l.length:=by rw[o6];simp
end
theorem yM (x:Int):lp (I64.ds TE.real x)=true:=rfl
theorem mw (l:List Int):TE.real.r_I64 l=l.map (I64.rs TE.real):=rfl
theorem d8 (l:List Int):TE.real.d_I64 l=l.map (I64.ds TE.real):=rfl
theorem yN (x:Int):d7 (I64.ds TE.real x)=I64.rs TE.real x:=by simp[I64.ds,I64.rs,d7,j6]
theorem yU (x:Int):bB (I64.ds TE.real x)=true:=by simp[I64.ds,bB,dQ]
theorem uB (l:List Int):toRdss (TE.real.d_I64 l)=TE.real.r_I64 l:=by rw[d8,mw];exact g9 yN l
theorem zw (l:List Int):bQ (TE.real.d_I64 l)=true:=by rw[d8];exact nO yU l
section
variable {g:G} {t:TE} (hg:g=G.real) (ht:t=TE.real)
include ht
theorem mb (l:List Int):(t.r_I64 l).length=l.length:=by subst ht;rw[mw];simp
theorem mf (l:List Int):(t.d_I64 l).length=l.length:=by subst ht;rw[d8];simp
theorem lY:t.d_I64 []=[]:=by subst ht;rfl
theorem iq (l:List Int) (i:Nat) (x:Int):(t.d_I64 (l.set i x)).length=(t.d_I64 l).length:=by subst ht;rw[d8,d8];simp
theorem wz (l:List Int):bQ (t.d_I64 l)=true:=by subst ht;exact zw l
theorem k8 {l:List Int} {n:Nat} (h:n=(t.d_I64 l).length):0+n≤(t.d_I64 l).length:=by omega
include hg
theorem dt {l:List Int} {i:Nat} {x:Int} (h:l[i]?=some x):(t.r_I64 l)[i]?=some (I64.rs t x):=by subst ht;rw[mw];exact eg _ h
theorem ba {l:List Int} {i:Nat} {x:Int} (h:l[i]?=some x):(t.d_I64 l)[i]?=some (I64.ds t x):=by subst ht;rw[d8];exact eg _ h
theorem fw {l:List Int} {i:Int} {k:Nat} {x:Int} (hi:i=((k:Nat):Int)) (h:l[k]?=some x):(t.r_I64 l)[g.nat i]?=some (I64.rs t x):=by
 subst hg;subst hi;exact dt rfl ht (by simpa [G.real] using h)
theorem dp (l:List Int):List.map (I64.ds t) l=t.d_I64 l:=by subst ht;rfl
theorem cD (l:List Int):l.length=g.dlen (t.d_I64 l):=by subst hg;subst ht;rw[d8];simp[G.real]
theorem ak (l:List Int):g.dlen (t.d_I64 l)=(t.d_I64 l).length:=by subst hg;rfl
theorem jI (l:List Int) (i:Nat) (x:Int):g.dset (t.d_I64 l) i (I64.ds t x)=t.d_I64 (l.set i x):=by subst hg;subst ht;rw[d8,d8];simp[G.real,List.map_set]
theorem li {l m:List Int} {n:Nat} {news:List (List D)} (h1:n=(t.d_I64 l).length) (h2:news=t.d_I64 m):g.dapp (t.d_I64 l) n news=t.d_I64 (l++m):=by
 subst h1;subst h2;subst hg;subst ht;simp only[d8,G.real,List.map_append,List.take_length]
theorem ji {l m:List Int} {n:Nat} {news:List (List D)} (h1:n=(t.d_I64 l).length) (h2:news=t.d_I64 m):g.nadd n (g.dlen news)=g.dlen (t.d_I64 (l++m)):=by
 subst h1;subst h2;subst hg;subst ht;simp only[d8,G.real,List.map_append,List.length_append]
theorem gl {l m:List Int} {n b:Nat} {news:List (List D)} (h1:n=(t.d_I64 l).length) (h2:news=t.d_I64 m) (h:(l.length+m.length)*b≤70368744177664) (hb:0<b:=by decide):0=0∧n≤(t.d_I64 l).length∧n+news.length≤maxLen∧(n+news.length)*b≤140737488355328:=
 jR h1 (mf ht l) (h2▸mf ht m) hb h
theorem mc {m:List Int} {n:Nat} (h:n=(t.d_I64 m).length):g.dsub (t.d_I64 m) 0 n=t.d_I64 m:=by subst h;subst hg;simp[G.real]
theorem rC (l:List Int):g.rda (t.d_I64 l)=t.r_I64 l:=by subst hg;subst ht;exact uB l
theorem fJ (l:List Int):g.rda (List.map (I64.ds t) l)=t.r_I64 l:=by rw[dp hg ht];exact rC hg ht l
theorem Ap (l:List Int) (lo n:Nat):g.rd (t.d_I64 l) lo n=t.r_I64 (List.take n (List.drop lo l)):=by
 subst hg;subst ht
 rw[←uB,d8,d8]
 simp[G.real]
theorem nJ {l:List Int} {n:Nat} (h:n=(t.d_I64 l).length):g.rd (t.d_I64 l) 0 n=t.r_I64 l:=by rw[Ap hg ht,h,mf ht];simp
theorem eY {l:List Int} {i:Int} {k:Nat} (hi:i=((k:Nat):Int)) (hc:k<l.length):g.lt i (g.llen (t.r_I64 l))=true:=by subst hg;simp[G.real,mb ht];omega
theorem ea {l:List Int} {i:Int} {k:Nat} (hi:i=((k:Nat):Int)) (hc:¬k<l.length):g.lt i (g.llen (t.r_I64 l))=false:=by subst hg;simp[G.real,mb ht];omega
theorem il {l:List Int} {i:Int} {k:Nat} (hi:i=((k:Nat):Int)) (hc:k<l.length) (hm:(t.r_I64 l).length≤maxLen):g.wrap .i64 (g.add i 1)=((k+1:Nat):Int):=by
 subst hg;rw[mb ht] at hm;unfold maxLen at hm;simp only[G.real];rw[i64_in]<;>omega
@[simp] theorem xm (l:List Int):G.real.llen (TE.real.r_I64 l)=(l.length:Int):=by rw[mw];simp[G.real]
@[simp] theorem co (l:List Int):G.real.dlen (TE.real.d_I64 l)=l.length:=by rw[d8];simp[G.real]
@[simp] theorem AU (l:List Int):(TE.real.r_I64 l).length=l.length:=by rw[mw];simp
theorem tG (m:List Int):g.up (t.r_I64 m)=t.d_I64 m:=by subst hg;subst ht;rw[mw,d8];simp[G.real,I64.rs,I64.ds]
theorem s0 {m:List Int} {n:Nat} (h:n=(t.d_I64 m).length):0+n≤(t.d_I64 m).length∧gS (((t.d_I64 m).drop 0).take n)=true:=by
 subst h;subst ht;refine⟨by omega,?_⟩
 simp only[List.drop_zero,List.take_length,d8];exact qZ yM m
end
theorem wS (x:Trip):lp (Trip.ds TE.real x)=true:=rfl
theorem lJ (l:List Trip):TE.real.r_Trip l=l.map (Trip.rs TE.real):=rfl
theorem eS (l:List Trip):TE.real.d_Trip l=l.map (Trip.ds TE.real):=rfl
theorem xU (x:Trip):d7 (Trip.ds TE.real x)=Trip.rs TE.real x:=by simp[Trip.ds,Trip.rs,d7,j6]
theorem wR (x:Trip):bB (Trip.ds TE.real x)=true:=by simp[Trip.ds,bB,dQ]
theorem sE (l:List Trip):toRdss (TE.real.d_Trip l)=TE.real.r_Trip l:=by rw[eS,lJ];exact g9 xU l
theorem wT (l:List Trip):bQ (TE.real.d_Trip l)=true:=by rw[eS];exact nO wR l
section
variable {g:G} {t:TE} (hg:g=G.real) (ht:t=TE.real)
include ht
theorem kU (l:List Trip):(t.r_Trip l).length=l.length:=by subst ht;rw[lJ];simp
theorem kL (l:List Trip):(t.d_Trip l).length=l.length:=by subst ht;rw[eS];simp
theorem kC:t.d_Trip []=[]:=by subst ht;rfl
theorem tP:t.r_Trip []=[]:=by subst ht;rfl
theorem oP (l:List Trip):bQ (t.d_Trip l)=true:=by subst ht;exact wT l
theorem qI {l:List Trip} {n:Nat} (h:n=(t.d_Trip l).length):0+n≤(t.d_Trip l).length:=by omega
include hg
theorem pw {l:List Trip} {i:Nat} {x:Trip} (h:l[i]?=some x):(t.r_Trip l)[i]?=some (Trip.rs t x):=by subst ht;rw[lJ];exact eg _ h
theorem tE {l:List Trip} {i:Nat} {x:Trip} (h:l[i]?=some x):(t.d_Trip l)[i]?=some (Trip.ds t x):=by subst ht;rw[eS];exact eg _ h
theorem gI {l:List Trip} {i:Int} {k:Nat} {x:Trip} (hi:i=((k:Nat):Int)) (h:l[k]?=some x):(t.r_Trip l)[g.nat i]?=some (Trip.rs t x):=by
 subst hg;subst hi;exact pw rfl ht (by simpa [G.real] using h)
theorem eZ (l:List Trip):List.map (Trip.ds t) l=t.d_Trip l:=by subst ht;rfl
theorem dZ (l:List Trip):l.length=g.dlen (t.d_Trip l):=by subst hg;subst ht;rw[eS];simp[G.real]
theorem au (l:List Trip):g.dlen (t.d_Trip l)=(t.d_Trip l).length:=by subst hg;rfl
theorem lM {l m:List Trip} {n:Nat} {news:List (List D)} (h1:n=(t.d_Trip l).length) (h2:news=t.d_Trip m):g.dapp (t.d_Trip l) n news=t.d_Trip (l++m):=by
 subst h1;subst h2;subst hg;subst ht;simp only[eS,G.real,List.map_append,List.take_length]
theorem j5 {l m:List Trip} {n:Nat} {news:List (List D)} (h1:n=(t.d_Trip l).length) (h2:news=t.d_Trip m):g.nadd n (g.dlen news)=g.dlen (t.d_Trip (l++m)):=by
 subst h1;subst h2;subst hg;subst ht;simp only[eS,G.real,List.map_append,List.length_append]
theorem gM {l m:List Trip} {n b:Nat} {news:List (List D)} (h1:n=(t.d_Trip l).length) (h2:news=t.d_Trip m) (h:(l.length+m.length)*b≤70368744177664) (hb:0<b:=by decide):0=0∧n≤(t.d_Trip l).length∧n+news.length≤maxLen∧(n+news.length)*b≤140737488355328:=
 jR h1 (kL ht l) (h2▸kL ht m) hb h
theorem kF {m:List Trip} {n:Nat} (h:n=(t.d_Trip m).length):g.dsub (t.d_Trip m) 0 n=t.d_Trip m:=by subst h;subst hg;simp[G.real]
theorem tk (l:List Trip):g.rda (t.d_Trip l)=t.r_Trip l:=by subst hg;subst ht;exact sE l
theorem y6 (l:List Trip) (lo n:Nat):g.rd (t.d_Trip l) lo n=t.r_Trip (List.take n (List.drop lo l)):=by
 subst hg;subst ht
 rw[←sE,eS,eS]
 simp[G.real]
theorem si {l:List Trip} {n:Nat} (h:n=(t.d_Trip l).length):g.rd (t.d_Trip l) 0 n=t.r_Trip l:=by rw[y6 hg ht,h,kL ht];simp
theorem fB {l:List Trip} {i:Int} {k:Nat} (hi:i=((k:Nat):Int)) (hc:k<l.length):g.lt i (g.llen (t.r_Trip l))=true:=by subst hg;simp[G.real,kU ht];omega
theorem e9 {l:List Trip} {i:Int} {k:Nat} (hi:i=((k:Nat):Int)) (hc:¬k<l.length):g.lt i (g.llen (t.r_Trip l))=false:=by subst hg;simp[G.real,kU ht];omega
theorem iw {l:List Trip} {i:Int} {k:Nat} (hi:i=((k:Nat):Int)) (hc:k<l.length) (hm:(t.r_Trip l).length≤maxLen):g.wrap .i64 (g.add i 1)=((k+1:Nat):Int):=by
 subst hg;rw[kU ht] at hm;unfold maxLen at hm;simp only[G.real];rw[i64_in]<;>omega
@[simp] theorem vz (l:List Trip):G.real.llen (TE.real.r_Trip l)=(l.length:Int):=by rw[lJ];simp[G.real]
@[simp] theorem kD (l:List Trip):G.real.dlen (TE.real.d_Trip l)=l.length:=by rw[eS];simp[G.real]
@[simp] theorem zW (l:List Trip):(TE.real.r_Trip l).length=l.length:=by rw[lJ];simp
theorem rD {m:List Trip} {n:Nat} (h:n=(t.d_Trip m).length):0+n≤(t.d_Trip m).length∧gS (((t.d_Trip m).drop 0).take n)=true:=by
 subst h;subst ht;refine⟨by omega,?_⟩
 simp only[List.drop_zero,List.take_length,eS];exact qZ wS m
end
theorem uK (l:List (List Int)):TE.real.r_LI64 l=l.map (LI64.rs TE.real):=rfl
theorem gD (l:List (List Int)):TE.real.d_LI64 l=l.map (LI64.ds TE.real):=rfl
section
variable {g:G} {t:TE} (hg:g=G.real) (ht:t=TE.real)
include ht
theorem nN (l:List (List Int)):(t.d_LI64 l).length=l.length:=by subst ht;rw[gD];simp
theorem tD:t.d_LI64 []=[]:=by subst ht;rfl
include hg
theorem iL {l:List (List Int)} {i:Nat} {x:(List Int)} (h:l[i]?=some x):(t.d_LI64 l)[i]?=some (LI64.ds t x):=by subst ht;rw[gD];exact eg _ h
theorem rO (l:List (List Int)):List.map (LI64.ds t) l=t.d_LI64 l:=by subst ht;rfl
theorem p7 (l:List (List Int)):l.length=g.dlen (t.d_LI64 l):=by subst hg;subst ht;rw[gD];simp[G.real]
theorem jQ (l:List (List Int)):g.dlen (t.d_LI64 l)=(t.d_LI64 l).length:=by subst hg;rfl
theorem wd (l:List (List Int)) (i:Nat) (x:(List Int)):g.dset (t.d_LI64 l) i (LI64.ds t x)=t.d_LI64 (l.set i x):=by subst hg;subst ht;rw[gD,gD];simp[G.real,List.map_set]
theorem iv {l:List (List Int)} {i:Nat} {x:(List Int)} (h:l[i]?=some x):g.dset (t.d_LI64 l) i (LI64.ds t x)=t.d_LI64 l:=by
 rw[wd hg ht]
 congr 1
 apply List.ext_getElem?
 intro j
 rw[List.getElem?_set]
 split
 ·rename_i e
  subst e
  rw[h]
  split
  ·rfl
  ·rename_i hn
   rw[List.getElem?_eq_none (by omega)] at h
   cases h
 ·rfl
theorem yJ {l m:List (List Int)} {n:Nat} {news:List (List D)} (h1:n=(t.d_LI64 l).length) (h2:news=t.d_LI64 m):g.dapp (t.d_LI64 l) n news=t.d_LI64 (l++m):=by
 subst h1;subst h2;subst hg;subst ht;simp only[gD,G.real,List.map_append,List.take_length]
theorem wc {l m:List (List Int)} {n:Nat} {news:List (List D)} (h1:n=(t.d_LI64 l).length) (h2:news=t.d_LI64 m):g.nadd n (g.dlen news)=g.dlen (t.d_LI64 (l++m)):=by
 subst h1;subst h2;subst hg;subst ht;simp only[gD,G.real,List.map_append,List.length_append]
theorem rL {l m:List (List Int)} {n b:Nat} {news:List (List D)} (h1:n=(t.d_LI64 l).length) (h2:news=t.d_LI64 m) (h:(l.length+m.length)*b≤70368744177664) (hb:0<b:=by decide):0=0∧n≤(t.d_LI64 l).length∧n+news.length≤maxLen∧(n+news.length)*b≤140737488355328:=
 jR h1 (nN ht l) (h2▸nN ht m) hb h
@[simp] theorem AS (l:List (List Int)):G.real.llen (TE.real.r_LI64 l)=(l.length:Int):=by rw[uK];simp[G.real]
@[simp] theorem kG (l:List (List Int)):G.real.dlen (TE.real.d_LI64 l)=l.length:=by rw[gD];simp[G.real]
@[simp] theorem Ac (l:List (List Int)):(TE.real.r_LI64 l).length=l.length:=by rw[uK];simp
end
theorem AY (x:ByteArray):lp (S.ds TE.real x)=true:=rfl
theorem xT (l:List ByteArray):TE.real.r_S l=l.map (S.rs TE.real):=rfl
theorem nu (l:List ByteArray):TE.real.d_S l=l.map (S.ds TE.real):=rfl
theorem AV (x:ByteArray):d7 (S.ds TE.real x)=S.rs TE.real x:=by simp[S.ds,S.rs,d7,j6]
theorem zG (l:List ByteArray):toRdss (TE.real.d_S l)=TE.real.r_S l:=by rw[nu,xT];exact g9 AV l
section
variable {g:G} {t:TE} (hg:g=G.real) (ht:t=TE.real)
include ht
theorem rp (l:List ByteArray):(t.r_S l).length=l.length:=by subst ht;rw[xT];simp
theorem jO (l:List ByteArray):(t.d_S l).length=l.length:=by subst ht;rw[nu];simp
theorem yO:t.d_S []=[]:=by subst ht;rfl
theorem zZ {l l2:List ByteArray} {n:Nat} (h:n=(t.d_S l).length) (h2:l2.length=l.length):n=(t.d_S l2).length:=by rw[h,jO ht,jO ht,h2]
theorem fu {l:List ByteArray} {n:Nat} (h:n=(t.d_S l).length):0+n≤(t.d_S l).length:=by omega
include hg
theorem nF {l:List ByteArray} {i:Nat} {x:ByteArray} (h:l[i]?=some x):(t.r_S l)[i]?=some (S.rs t x):=by subst ht;rw[xT];exact eg _ h
theorem jT {l:List ByteArray} {i:Nat} {x:ByteArray} (h:l[i]?=some x):(t.d_S l)[i]?=some (S.ds t x):=by subst ht;rw[nu];exact eg _ h
theorem sS {l:List ByteArray} {i:Int} {k:Nat} {x:ByteArray} (hi:i=((k:Nat):Int)) (h:l[k]?=some x):(t.r_S l)[g.nat i]?=some (S.rs t x):=by
 subst hg;subst hi;exact nF rfl ht (by simpa [G.real] using h)
theorem hZ (l:List ByteArray):List.map (S.ds t) l=t.d_S l:=by subst ht;rfl
theorem fW (l:List ByteArray):l.length=g.dlen (t.d_S l):=by subst hg;subst ht;rw[nu];simp[G.real]
theorem an (l:List ByteArray):g.dlen (t.d_S l)=(t.d_S l).length:=by subst hg;rfl
theorem im {l m:List ByteArray} {n:Nat} {news:List (List D)} (h1:n=(t.d_S l).length) (h2:news=t.d_S m):g.dapp (t.d_S l) n news=t.d_S (l++m):=by
 subst h1;subst h2;subst hg;subst ht;simp only[nu,G.real,List.map_append,List.take_length]
theorem fz {l m:List ByteArray} {n:Nat} {news:List (List D)} (h1:n=(t.d_S l).length) (h2:news=t.d_S m):g.nadd n (g.dlen news)=g.dlen (t.d_S (l++m)):=by
 subst h1;subst h2;subst hg;subst ht;simp only[nu,G.real,List.map_append,List.length_append]
theorem da {l m:List ByteArray} {n b:Nat} {news:List (List D)} (h1:n=(t.d_S l).length) (h2:news=t.d_S m) (h:(l.length+m.length)*b≤70368744177664) (hb:0<b:=by decide):0=0∧n≤(t.d_S l).length∧n+news.length≤maxLen∧(n+news.length)*b≤140737488355328:=
 jR h1 (jO ht l) (h2▸jO ht m) hb h
theorem Bi (l:List ByteArray):g.rda (t.d_S l)=t.r_S l:=by subst hg;subst ht;exact zG l
theorem yD (l:List ByteArray):g.rda (List.map (S.ds t) l)=t.r_S l:=by rw[hZ hg ht];exact Bi hg ht l
theorem rd_S (l:List ByteArray) (lo n:Nat):g.rd (t.d_S l) lo n=t.r_S (List.take n (List.drop lo l)):=by
 subst hg;subst ht
 rw[←zG,nu,nu]
 simp[G.real]
theorem hN {l:List ByteArray} {n:Nat} (h:n=(t.d_S l).length):g.rd (t.d_S l) 0 n=t.r_S l:=by rw[rd_S hg ht,h,jO ht];simp
theorem kT {l:List ByteArray} {i:Int} {k:Nat} (hi:i=((k:Nat):Int)) (hc:k<l.length):g.lt i (g.llen (t.r_S l))=true:=by subst hg;simp[G.real,rp ht];omega
theorem jK {l:List ByteArray} {i:Int} {k:Nat} (hi:i=((k:Nat):Int)) (hc:¬k<l.length):g.lt i (g.llen (t.r_S l))=false:=by subst hg;simp[G.real,rp ht];omega
theorem rj {l:List ByteArray} {i:Int} {k:Nat} (hi:i=((k:Nat):Int)) (hc:k<l.length) (hm:(t.r_S l).length≤maxLen):g.wrap .i64 (g.add i 1)=((k+1:Nat):Int):=by
 subst hg;rw[rp ht] at hm;unfold maxLen at hm;simp only[G.real];rw[i64_in]<;>omega
@[simp] theorem llen_S (l:List ByteArray):G.real.llen (TE.real.r_S l)=(l.length:Int):=by rw[xT];simp[G.real]
@[simp] theorem gF (l:List ByteArray):G.real.dlen (TE.real.d_S l)=l.length:=by rw[nu];simp[G.real]
@[simp] theorem rlenx_S (l:List ByteArray):(TE.real.r_S l).length=l.length:=by rw[xT];simp
theorem bV (m:List ByteArray) (lo n:Nat):g.dsub (t.d_S m) lo n=t.d_S (List.take n (List.drop lo m)):=by subst hg;subst ht;rw[nu,nu];simp[G.real]
theorem eB {m:List ByteArray} {lo n:Nat} (h:lo+n≤m.length):lo+n≤(t.d_S m).length∧gS (((t.d_S m).drop lo).take n)=true:=by
 subst ht;refine⟨by rw[jO rfl];exact h,?_⟩
 rw[nu,←List.map_drop,←List.map_take];exact qZ AY _
end
end Go.Vs
