/- Part of the proofs of this seat's laws: Ty. No condition. -/
import Derived.Test.YtdgkokanccedkaaGreatDoorVf
set_option linter.unusedVariables false
set_option linter.unusedSimpArgs false
set_option linter.unusedSectionVars false
namespace Go.Vs
open Go.IntWalk
set_option linter.unusedVariables false
set_option linter.unusedSimpArgs false
set_option linter.unusedSectionVars false
structure Leg where
 From:ByteArray
 To:ByteArray
 Start:Int
 Takes:Int
 Days:Int
 Room:Int
structure Network where
 Legs:List Leg
 Off:List Int
 Change:Int
structure Trip where
 Leg:Int
 Day:Int
structure Scan where
 Thing:Int
 At:Int
 Kind:Int
 Place:ByteArray
 Trip:Trip
structure Spot where
 Place:ByteArray
 At:Int
structure Cur where
 b:List Int
 i:Int
 h:Int
def rU8 (l:List Int):List (List R):=l.map fun x=>[.v (.int .u8 x)]
def dU8 (l:List Int):List (List D):=l.map fun x=>[.r (.v (.int .u8 x))]
def rLeg (l:List Leg):List (List R):=l.map fun x=>[.v (.string x.From),.v (.string x.To),.v (.int .i64 x.Start),.v (.int .i64 x.Takes),.v (.int .i64 x.Days),.v (.int .i64 x.Room)]
def dLeg (l:List Leg):List (List D):=l.map fun x=>[.r (.v (.string x.From)),.r (.v (.string x.To)),.r (.v (.int .i64 x.Start)),.r (.v (.int .i64 x.Takes)),.r (.v (.int .i64 x.Days)),.r (.v (.int .i64 x.Room))]
def rI64 (l:List Int):List (List R):=l.map fun x=>[.v (.int .i64 x)]
def dI64 (l:List Int):List (List D):=l.map fun x=>[.r (.v (.int .i64 x))]
def rS (l:List ByteArray):List (List R):=l.map fun x=>[.v (.string x)]
def dS (l:List ByteArray):List (List D):=l.map fun x=>[.r (.v (.string x))]
structure TE where
 r_U8:List Int→List (List R)
 d_U8:List Int→List (List D)
 r_Leg:List Leg→List (List R)
 d_Leg:List Leg→List (List D)
 r_I64:List Int→List (List R)
 d_I64:List Int→List (List D)
 r_S:List ByteArray→List (List R)
 d_S:List ByteArray→List (List D)
def TE.real:TE:=⟨rU8,dU8,rLeg,dLeg,rI64,dI64,rS,dS⟩
def Leg.rs (t:TE) (x:Leg):List R:=[.v (.string x.From),.v (.string x.To),.v (.int .i64 x.Start),.v (.int .i64 x.Takes),.v (.int .i64 x.Days),.v (.int .i64 x.Room)]
def Leg.ds (t:TE) (x:Leg):List D:=[.r (.v (.string x.From)),.r (.v (.string x.To)),.r (.v (.int .i64 x.Start)),.r (.v (.int .i64 x.Takes)),.r (.v (.int .i64 x.Days)),.r (.v (.int .i64 x.Room))]
def Network.rs (t:TE) (x:Network):List R:=[.s 6 (t.r_Leg x.Legs),.s 1 (t.r_I64 x.Off),.v (.int .i64 x.Change)]
def Network.ds (t:TE) (x:Network):List D:=[.o 6 (t.d_Leg x.Legs),.o 1 (t.d_I64 x.Off),.r (.v (.int .i64 x.Change))]
def Trip.rs (t:TE) (x:Trip):List R:=[.v (.int .i64 x.Leg),.v (.int .i64 x.Day)]
def Trip.ds (t:TE) (x:Trip):List D:=[.r (.v (.int .i64 x.Leg)),.r (.v (.int .i64 x.Day))]
def Scan.rs (t:TE) (x:Scan):List R:=[.v (.int .i64 x.Thing),.v (.int .i64 x.At),.v (.int .i64 x.Kind),.v (.string x.Place),.v (.int .i64 x.Trip.Leg),.v (.int .i64 x.Trip.Day)]
def Scan.ds (t:TE) (x:Scan):List D:=[.r (.v (.int .i64 x.Thing)),.r (.v (.int .i64 x.At)),.r (.v (.int .i64 x.Kind)),.r (.v (.string x.Place)),.r (.v (.int .i64 x.Trip.Leg)),.r (.v (.int .i64 x.Trip.Day))]
def Spot.rs (t:TE) (x:Spot):List R:=[.v (.string x.Place),.v (.int .i64 x.At)]
def Spot.ds (t:TE) (x:Spot):List D:=[.r (.v (.string x.Place)),.r (.v (.int .i64 x.At))]
def Cur.rs (t:TE) (x:Cur):List R:=[.s 1 (t.r_U8 x.b),.v (.int .i64 x.i),.v (.int .i64 x.h)]
def Cur.ds (t:TE) (x:Cur):List D:=[.r (.s 1 (t.r_U8 x.b)),.r (.v (.int .i64 x.i)),.r (.v (.int .i64 x.h))]
def U8.rs (t:TE) (x:Int):List R:=[.v (.int .u8 x)]
def U8.ds (t:TE) (x:Int):List D:=[.r (.v (.int .u8 x))]
def I64.rs (t:TE) (x:Int):List R:=[.v (.int .i64 x)]
def I64.ds (t:TE) (x:Int):List D:=[.r (.v (.int .i64 x))]
def S.rs (t:TE) (x:ByteArray):List R:=[.v (.string x)]
def S.ds (t:TE) (x:ByteArray):List D:=[.r (.v (.string x))]
theorem hM {α β:Type} (f:α→β) {l:List α} {i:Nat} {x:α} (h:l[i]?=some x):(l.map f)[i]?=some (f x):=by rw[List.getElem?_map,h];rfl
theorem jj {α:Type} {f:α→List D} {q:α→List R} (h:∀x,ee (f x)=q x) (l:List α):toRdss (l.map f)=l.map q:=by
 induction l with
 |nil=>rfl
 |cons x l ih=>simp only[List.map_cons,toRdss,h,ih]
theorem zg {α:Type} {f:α→List D} (h:∀x,nO (f x)=true) (l:List α):iz (l.map f)=true:=by
 induction l with
 |nil=>rfl
 |cons x l ih=>simp only[List.map_cons,iz,h,ih,Bool.and_self]
theorem xY {t:TE} (ht:t=TE.real) (l:List Int):bsR (t.r_U8 l)=some l:=by
 subst ht
 induction l with
 |nil=>rfl
 |cons x l ih=>
  have e:TE.real.r_U8 (x::l)=[.v (.int .u8 x)]::TE.real.r_U8 l:=rfl
  rw[e,bsR,ih]
  rfl
theorem sG (l:List Int):TE.real.r_U8 l=l.map (U8.rs TE.real):=rfl
theorem py (l:List Int):TE.real.d_U8 l=l.map (U8.ds TE.real):=rfl
theorem AQ (x:Int):ee (U8.ds TE.real x)=U8.rs TE.real x:=by simp[U8.ds,U8.rs,ee,j6]
theorem Am (l:List Int):toRdss (TE.real.d_U8 l)=TE.real.r_U8 l:=by rw[py,sG];exact jj AQ l
section
variable {g:G} {t:TE} (hg:g=G.real) (ht:t=TE.real)
include ht
theorem ov (l:List Int):(t.r_U8 l).length=l.length:=by subst ht;rw[sG];simp
theorem yi (l:List Int):(t.d_U8 l).length=l.length:=by subst ht;rw[py];simp
theorem uu {l:List Int} {n:Nat} (h:n=(t.d_U8 l).length):0+n≤(t.d_U8 l).length:=by omega
include hg
theorem rP {l:List Int} {i:Nat} {x:Int} (h:l[i]?=some x):(t.r_U8 l)[i]?=some (U8.rs t x):=by subst ht;rw[sG];exact hM _ h
theorem vH {l:List Int} {i:Int} {k:Nat} {x:Int} (hi:i=((k:Nat):Int)) (h:l[k]?=some x):(t.r_U8 l)[g.nat i]?=some (U8.rs t x):=by
 subst hg;subst hi;exact rP rfl ht (by simpa [G.real] using h)
theorem wA (l:List Int):List.map (U8.ds t) l=t.d_U8 l:=by subst ht;rfl
theorem t9 (l:List Int):l.length=g.dlen (t.d_U8 l):=by subst hg;subst ht;rw[py];simp[G.real]
theorem mS (l:List Int):g.dlen (t.d_U8 l)=(t.d_U8 l).length:=by subst hg;rfl
theorem BV (l:List Int) (lo n:Nat):g.rd (t.d_U8 l) lo n=t.r_U8 (List.take n (List.drop lo l)):=by
 subst hg;subst ht
 rw[←Am,py,py]
 simp[G.real]
theorem yg {l:List Int} {n:Nat} (h:n=(t.d_U8 l).length):g.rd (t.d_U8 l) 0 n=t.r_U8 l:=by rw[BV hg ht,h,yi ht];simp
theorem su {l:List Int} {i:Int} {k:Nat} (hi:i=((k:Nat):Int)) (hc:k<l.length):g.lt i (g.llen (t.r_U8 l))=true:=by subst hg;simp[G.real,ov ht];omega
theorem qA {l:List Int} {i:Int} {k:Nat} (hi:i=((k:Nat):Int)) (hc:¬k<l.length):g.lt i (g.llen (t.r_U8 l))=false:=by subst hg;simp[G.real,ov ht];omega
theorem xz {l:List Int} {i:Int} {k:Nat} (hi:i=((k:Nat):Int)) (hc:k<l.length) (hm:(t.r_U8 l).length≤maxLen):g.wrap .i64 (g.add i 1)=((k+1:Nat):Int):=by
 subst hg;rw[ov ht] at hm;unfold maxLen at hm;simp only[G.real];rw[i64_in]<;>omega
@[simp] theorem zp (l:List Int):G.real.llen (TE.real.r_U8 l)=(l.length:Int):=by rw[sG];simp[G.real]
@[simp] theorem BF (l:List Int):G.real.dlen (TE.real.d_U8 l)=l.length:=by rw[py];simp[G.real]
@[simp] theorem BG (l:List Int):(TE.real.r_U8 l).length=l.length:=by rw[sG];simp
end
theorem oW (l:List Leg):TE.real.r_Leg l=l.map (Leg.rs TE.real):=rfl
theorem d4 (l:List Leg):TE.real.d_Leg l=l.map (Leg.ds TE.real):=rfl
theorem zu (x:Leg):ee (Leg.ds TE.real x)=Leg.rs TE.real x:=by simp[Leg.ds,Leg.rs,ee,j6]
theorem yV (l:List Leg):toRdss (TE.real.d_Leg l)=TE.real.r_Leg l:=by rw[d4,oW];exact jj zu l
section
variable {g:G} {t:TE} (hg:g=G.real) (ht:t=TE.real)
include ht
theorem lE (l:List Leg):(t.r_Leg l).length=l.length:=by subst ht;rw[oW];simp
theorem qa (l:List Leg):(t.d_Leg l).length=l.length:=by subst ht;rw[d4];simp
theorem vb:t.d_Leg []=[]:=by subst ht;rfl
theorem gO (l:List Leg) (i:Nat) (x:Leg):(t.d_Leg (l.set i x)).length=(t.d_Leg l).length:=by subst ht;rw[d4,d4];simp
include hg
theorem bw {l:List Leg} {i:Nat} {x:Leg} (h:l[i]?=some x):(t.r_Leg l)[i]?=some (Leg.rs t x):=by subst ht;rw[oW];exact hM _ h
theorem dt {l:List Leg} {i:Nat} {x:Leg} (h:l[i]?=some x):(t.d_Leg l)[i]?=some (Leg.ds t x):=by subst ht;rw[d4];exact hM _ h
theorem eQ {l:List Leg} {i:Int} {k:Nat} {x:Leg} (hi:i=((k:Nat):Int)) (h:l[k]?=some x):(t.r_Leg l)[g.nat i]?=some (Leg.rs t x):=by
 subst hg;subst hi;exact bw rfl ht (by simpa [G.real] using h)
theorem qQ (l:List Leg):List.map (Leg.ds t) l=t.d_Leg l:=by subst ht;rfl
theorem nu (l:List Leg):l.length=g.dlen (t.d_Leg l):=by subst hg;subst ht;rw[d4];simp[G.real]
theorem aH (l:List Leg):g.dlen (t.d_Leg l)=(t.d_Leg l).length:=by subst hg;rfl
theorem kO:g.dlen (t.d_Leg [])=0:=by subst hg;subst ht;rfl
theorem xn (j:Int) (z:Leg):g.drep j (Leg.ds t z)=t.d_Leg (List.replicate (g.nat j) z):=by subst hg;subst ht;rw[d4];simp[G.real]
theorem vx (j:Int) (z:Leg):g.nat j=g.dlen (t.d_Leg (List.replicate (g.nat j) z)):=by subst hg;subst ht;rw[d4];simp[G.real]
theorem iE (l:List Leg) (i:Nat) (x:Leg):g.dset (t.d_Leg l) i (Leg.ds t x)=t.d_Leg (l.set i x):=by subst hg;subst ht;rw[d4,d4];simp[G.real,List.map_set]
theorem qV {l m:List Leg} {n:Nat} {news:List (List D)} (h1:n=(t.d_Leg l).length) (h2:news=t.d_Leg m):g.dapp (t.d_Leg l) n news=t.d_Leg (l++m):=by
 subst h1;subst h2;subst hg;subst ht;simp only[d4,G.real,List.map_append,List.take_length]
theorem oV {l m:List Leg} {n:Nat} {news:List (List D)} (h1:n=(t.d_Leg l).length) (h2:news=t.d_Leg m):g.nadd n (g.dlen news)=g.dlen (t.d_Leg (l++m)):=by
 subst h1;subst h2;subst hg;subst ht;simp only[d4,G.real,List.map_append,List.length_append]
theorem jQ {l m:List Leg} {n b:Nat} {news:List (List D)} (h1:n=(t.d_Leg l).length) (h2:news=t.d_Leg m) (h:(l.length+m.length)*b≤70368744177664) (hb:0<b:=by decide):0=0∧n≤(t.d_Leg l).length∧n+news.length≤maxLen∧(n+news.length)*b≤140737488355328:=
 qY h1 (qa ht l) (h2▸qa ht m) hb h
theorem qt (l:List Leg):g.rda (t.d_Leg l)=t.r_Leg l:=by subst hg;subst ht;exact yV l
theorem dw {l:List Leg} {i:Int} {k:Nat} (hi:i=((k:Nat):Int)) (hc:k<l.length):g.lt i (g.llen (t.r_Leg l))=true:=by subst hg;simp[G.real,lE ht];omega
theorem c6 {l:List Leg} {i:Int} {k:Nat} (hi:i=((k:Nat):Int)) (hc:¬k<l.length):g.lt i (g.llen (t.r_Leg l))=false:=by subst hg;simp[G.real,lE ht];omega
theorem fM {l:List Leg} {i:Int} {k:Nat} (hi:i=((k:Nat):Int)) (hc:k<l.length) (hm:(t.r_Leg l).length≤maxLen):g.wrap .i64 (g.add i 1)=((k+1:Nat):Int):=by
 subst hg;rw[lE ht] at hm;unfold maxLen at hm;simp only[G.real];rw[i64_in]<;>omega
@[simp] theorem iY (l:List Leg):G.real.llen (TE.real.r_Leg l)=(l.length:Int):=by rw[oW];simp[G.real]
@[simp] theorem jC (l:List Leg):G.real.dlen (TE.real.d_Leg l)=l.length:=by rw[d4];simp[G.real]
@[simp] theorem Ba (l:List Leg):(TE.real.r_Leg l).length=l.length:=by rw[oW];simp
theorem sn (m:List Leg) (lo n:Nat):g.dsub (t.d_Leg m) lo n=t.d_Leg (List.take n (List.drop lo m)):=by subst hg;subst ht;rw[d4,d4];simp[G.real]
end
theorem oj (l:List Int):TE.real.r_I64 l=l.map (I64.rs TE.real):=rfl
theorem eL (l:List Int):TE.real.d_I64 l=l.map (I64.ds TE.real):=rfl
theorem yY (x:Int):ee (I64.ds TE.real x)=I64.rs TE.real x:=by simp[I64.ds,I64.rs,ee,j6]
theorem y7 (l:List Int):toRdss (TE.real.d_I64 l)=TE.real.r_I64 l:=by rw[eL,oj];exact jj yY l
section
variable {g:G} {t:TE} (hg:g=G.real) (ht:t=TE.real)
include ht
theorem lQ (l:List Int):(t.r_I64 l).length=l.length:=by subst ht;rw[oj];simp
theorem pY (l:List Int):(t.d_I64 l).length=l.length:=by subst ht;rw[eL];simp
theorem vu:t.d_I64 []=[]:=by subst ht;rfl
theorem u6 (l:List Int) (i:Nat) (x:Int):(t.d_I64 (l.set i x)).length=(t.d_I64 l).length:=by subst ht;rw[eL,eL];simp
include hg
theorem gI {l:List Int} {i:Nat} {x:Int} (h:l[i]?=some x):(t.r_I64 l)[i]?=some (I64.rs t x):=by subst ht;rw[oj];exact hM _ h
theorem vr {l:List Int} {i:Nat} {x:Int} (h:l[i]?=some x):(t.d_I64 l)[i]?=some (I64.ds t x):=by subst ht;rw[eL];exact hM _ h
theorem dW {l:List Int} {i:Int} {k:Nat} {x:Int} (hi:i=((k:Nat):Int)) (h:l[k]?=some x):(t.r_I64 l)[g.nat i]?=some (I64.rs t x):=by
 subst hg;subst hi;exact gI rfl ht (by simpa [G.real] using h)
theorem rb (l:List Int):List.map (I64.ds t) l=t.d_I64 l:=by subst ht;rfl
theorem rB (l:List Int):l.length=g.dlen (t.d_I64 l):=by subst hg;subst ht;rw[eL];simp[G.real]
theorem bg (l:List Int):g.dlen (t.d_I64 l)=(t.d_I64 l).length:=by subst hg;rfl
theorem wG (j:Int) (z:Int):g.drep j (I64.ds t z)=t.d_I64 (List.replicate (g.nat j) z):=by subst hg;subst ht;rw[eL];simp[G.real]
theorem vX (j:Int) (z:Int):g.nat j=g.dlen (t.d_I64 (List.replicate (g.nat j) z)):=by subst hg;subst ht;rw[eL];simp[G.real]
theorem yE (l:List Int) (i:Nat) (x:Int):g.dset (t.d_I64 l) i (I64.ds t x)=t.d_I64 (l.set i x):=by subst hg;subst ht;rw[eL,eL];simp[G.real,List.map_set]
theorem zm {l m:List Int} {n:Nat} {news:List (List D)} (h1:n=(t.d_I64 l).length) (h2:news=t.d_I64 m):g.dapp (t.d_I64 l) n news=t.d_I64 (l++m):=by
 subst h1;subst h2;subst hg;subst ht;simp only[eL,G.real,List.map_append,List.take_length]
theorem wZ {l m:List Int} {n:Nat} {news:List (List D)} (h1:n=(t.d_I64 l).length) (h2:news=t.d_I64 m):g.nadd n (g.dlen news)=g.dlen (t.d_I64 (l++m)):=by
 subst h1;subst h2;subst hg;subst ht;simp only[eL,G.real,List.map_append,List.length_append]
theorem tw {l m:List Int} {n b:Nat} {news:List (List D)} (h1:n=(t.d_I64 l).length) (h2:news=t.d_I64 m) (h:(l.length+m.length)*b≤70368744177664) (hb:0<b:=by decide):0=0∧n≤(t.d_I64 l).length∧n+news.length≤maxLen∧(n+news.length)*b≤140737488355328:=
 qY h1 (pY ht l) (h2▸pY ht m) hb h
theorem nd (l:List Int):g.rda (t.d_I64 l)=t.r_I64 l:=by subst hg;subst ht;exact y7 l
theorem cf (l:List Int):g.rda (List.map (I64.ds t) l)=t.r_I64 l:=by rw[rb hg ht];exact nd hg ht l
theorem dE {l:List Int} {i:Int} {k:Nat} (hi:i=((k:Nat):Int)) (hc:k<l.length):g.lt i (g.llen (t.r_I64 l))=true:=by subst hg;simp[G.real,lQ ht];omega
theorem da {l:List Int} {i:Int} {k:Nat} (hi:i=((k:Nat):Int)) (hc:¬k<l.length):g.lt i (g.llen (t.r_I64 l))=false:=by subst hg;simp[G.real,lQ ht];omega
theorem fJ {l:List Int} {i:Int} {k:Nat} (hi:i=((k:Nat):Int)) (hc:k<l.length) (hm:(t.r_I64 l).length≤maxLen):g.wrap .i64 (g.add i 1)=((k+1:Nat):Int):=by
 subst hg;rw[lQ ht] at hm;unfold maxLen at hm;simp only[G.real];rw[i64_in]<;>omega
@[simp] theorem nN (l:List Int):G.real.llen (TE.real.r_I64 l)=(l.length:Int):=by rw[oj];simp[G.real]
@[simp] theorem vU (l:List Int):G.real.dlen (TE.real.d_I64 l)=l.length:=by rw[eL];simp[G.real]
@[simp] theorem A9 (l:List Int):(TE.real.r_I64 l).length=l.length:=by rw[oj];simp
end
theorem Bg (x:ByteArray):nO (S.ds TE.real x)=true:=rfl
theorem wI (l:List ByteArray):TE.real.r_S l=l.map (S.rs TE.real):=rfl
theorem mN (l:List ByteArray):TE.real.d_S l=l.map (S.ds TE.real):=rfl
theorem Bf (x:ByteArray):ee (S.ds TE.real x)=S.rs TE.real x:=by simp[S.ds,S.rs,ee,j6]
theorem zK (l:List ByteArray):toRdss (TE.real.d_S l)=TE.real.r_S l:=by rw[mN,wI];exact jj Bf l
section
variable {g:G} {t:TE} (hg:g=G.real) (ht:t=TE.real)
include ht
theorem q9 (l:List ByteArray):(t.r_S l).length=l.length:=by subst ht;rw[wI];simp
theorem jn (l:List ByteArray):(t.d_S l).length=l.length:=by subst ht;rw[mN];simp
theorem Ao {l l2:List ByteArray} {n:Nat} (h:n=(t.d_S l).length) (h2:l2.length=l.length):n=(t.d_S l2).length:=by rw[h,jn ht,jn ht,h2]
theorem rc {l:List ByteArray} {n:Nat} (h:n=(t.d_S l).length):0+n≤(t.d_S l).length:=by omega
include hg
theorem ul {l:List ByteArray} {i:Nat} {x:ByteArray} (h:l[i]?=some x):(t.r_S l)[i]?=some (S.rs t x):=by subst ht;rw[wI];exact hM _ h
theorem a7 {l:List ByteArray} {i:Nat} {x:ByteArray} (h:l[i]?=some x):(t.d_S l)[i]?=some (S.ds t x):=by subst ht;rw[mN];exact hM _ h
theorem oE {l:List ByteArray} {i:Int} {k:Nat} {x:ByteArray} (hi:i=((k:Nat):Int)) (h:l[k]?=some x):(t.r_S l)[g.nat i]?=some (S.rs t x):=by
 subst hg;subst hi;exact ul rfl ht (by simpa [G.real] using h)
theorem e9 (l:List ByteArray):List.map (S.ds t) l=t.d_S l:=by subst ht;rfl
theorem dN (l:List ByteArray):l.length=g.dlen (t.d_S l):=by subst hg;subst ht;rw[mN];simp[G.real]
theorem ao (l:List ByteArray):g.dlen (t.d_S l)=(t.d_S l).length:=by subst hg;rfl
theorem f9 {l m:List ByteArray} {n:Nat} {news:List (List D)} (h1:n=(t.d_S l).length) (h2:news=t.d_S m):g.dapp (t.d_S l) n news=t.d_S (l++m):=by
 subst h1;subst h2;subst hg;subst ht;simp only[mN,G.real,List.map_append,List.take_length]
theorem dX {l m:List ByteArray} {n:Nat} {news:List (List D)} (h1:n=(t.d_S l).length) (h2:news=t.d_S m):g.nadd n (g.dlen news)=g.dlen (t.d_S (l++m)):=by
 subst h1;subst h2;subst hg;subst ht;simp only[mN,G.real,List.map_append,List.length_append]
theorem bR {l m:List ByteArray} {n b:Nat} {news:List (List D)} (h1:n=(t.d_S l).length) (h2:news=t.d_S m) (h:(l.length+m.length)*b≤70368744177664) (hb:0<b:=by decide):0=0∧n≤(t.d_S l).length∧n+news.length≤maxLen∧(n+news.length)*b≤140737488355328:=
 qY h1 (jn ht l) (h2▸jn ht m) hb h
theorem zW (l:List ByteArray):g.rda (t.d_S l)=t.r_S l:=by subst hg;subst ht;exact zK l
theorem s8 (l:List ByteArray):g.rda (List.map (S.ds t) l)=t.r_S l:=by rw[e9 hg ht];exact zW hg ht l
theorem rd_S (l:List ByteArray) (lo n:Nat):g.rd (t.d_S l) lo n=t.r_S (List.take n (List.drop lo l)):=by
 subst hg;subst ht
 rw[←zK,mN,mN]
 simp[G.real]
theorem tZ {l:List ByteArray} {n:Nat} (h:n=(t.d_S l).length):g.rd (t.d_S l) 0 n=t.r_S l:=by rw[rd_S hg ht,h,jn ht];simp
theorem ko {l:List ByteArray} {i:Int} {k:Nat} (hi:i=((k:Nat):Int)) (hc:k<l.length):g.lt i (g.llen (t.r_S l))=true:=by subst hg;simp[G.real,q9 ht];omega
theorem iu {l:List ByteArray} {i:Int} {k:Nat} (hi:i=((k:Nat):Int)) (hc:¬k<l.length):g.lt i (g.llen (t.r_S l))=false:=by subst hg;simp[G.real,q9 ht];omega
theorem qM {l:List ByteArray} {i:Int} {k:Nat} (hi:i=((k:Nat):Int)) (hc:k<l.length) (hm:(t.r_S l).length≤maxLen):g.wrap .i64 (g.add i 1)=((k+1:Nat):Int):=by
 subst hg;rw[q9 ht] at hm;unfold maxLen at hm;simp only[G.real];rw[i64_in]<;>omega
@[simp] theorem llen_S (l:List ByteArray):G.real.llen (TE.real.r_S l)=(l.length:Int):=by rw[wI];simp[G.real]
@[simp] theorem fz (l:List ByteArray):G.real.dlen (TE.real.d_S l)=l.length:=by rw[mN];simp[G.real]
@[simp] theorem rlenx_S (l:List ByteArray):(TE.real.r_S l).length=l.length:=by rw[wI];simp
theorem bM (m:List ByteArray) (lo n:Nat):g.dsub (t.d_S m) lo n=t.d_S (List.take n (List.drop lo m)):=by subst hg;subst ht;rw[mN,mN];simp[G.real]
theorem ea {m:List ByteArray} {lo n:Nat} (h:lo+n≤m.length):lo+n≤(t.d_S m).length∧iz (((t.d_S m).drop lo).take n)=true:=by
 subst ht;refine⟨by rw[jn rfl];exact h,?_⟩
 rw[mN,←List.map_drop,←List.map_take];exact zg Bg _
end
end Go.Vs
