/- Part of the proofs of this seat's laws: Ty. No condition. -/
import Derived.Test.YtdgkokanccedkaaGreatDoorVf
set_option linter.unusedVariables false
set_option linter.unusedSimpArgs false
set_option linter.unusedSectionVars false
namespace Go.Vs
open Go.IntWalk
set_option linter.unusedVariables false
set_option linter.unusedSimpArgs false
set_option linter.unusedSectionVars false
structure Leg where
 From:ByteArray
 To:ByteArray
 Start:Int
 Takes:Int
 Days:Int
 Room:Int
structure Network where
 Legs:List Leg
 Off:List Int
 Change:Int
structure Trip where
 Leg:Int
 Day:Int
structure Scan where
 Thing:Int
 At:Int
 Kind:Int
 Place:ByteArray
 Trip:Trip
structure Spot where
 Place:ByteArray
 At:Int
structure Cur where
 b:List Int
 i:Int
 h:Int
def rU8 (l:List Int):List (List R):=l.map fun x=>[.v (.int .u8 x)]
def dU8 (l:List Int):List (List D):=l.map fun x=>[.r (.v (.int .u8 x))]
def rLeg (l:List Leg):List (List R):=l.map fun x=>[.v (.string x.From),.v (.string x.To),.v (.int .i64 x.Start),.v (.int .i64 x.Takes),.v (.int .i64 x.Days),.v (.int .i64 x.Room)]
def dLeg (l:List Leg):List (List D):=l.map fun x=>[.r (.v (.string x.From)),.r (.v (.string x.To)),.r (.v (.int .i64 x.Start)),.r (.v (.int .i64 x.Takes)),.r (.v (.int .i64 x.Days)),.r (.v (.int .i64 x.Room))]
def rI64 (l:List Int):List (List R):=l.map fun x=>[.v (.int .i64 x)]
def dI64 (l:List Int):List (List D):=l.map fun x=>[.r (.v (.int .i64 x))]
def rS (l:List ByteArray):List (List R):=l.map fun x=>[.v (.string x)]
def dS (l:List ByteArray):List (List D):=l.map fun x=>[.r (.v (.string x))]
structure TE where
 r_U8:List Int→List (List R)
 d_U8:List Int→List (List D)
 r_Leg:List Leg→List (List R)
 d_Leg:List Leg→List (List D)
 r_I64:List Int→List (List R)
 d_I64:List Int→List (List D)
 r_S:List ByteArray→List (List R)
 d_S:List ByteArray→List (List D)
def TE.real:TE:=⟨rU8,dU8,rLeg,dLeg,rI64,dI64,rS,dS⟩
def Leg.rs (t:TE) (x:Leg):List R:=[.v (.string x.From),.v (.string x.To),.v (.int .i64 x.Start),.v (.int .i64 x.Takes),.v (.int .i64 x.Days),.v (.int .i64 x.Room)]
def Leg.ds (t:TE) (x:Leg):List D:=[.r (.v (.string x.From)),.r (.v (.string x.To)),.r (.v (.int .i64 x.Start)),.r (.v (.int .i64 x.Takes)),.r (.v (.int .i64 x.Days)),.r (.v (.int .i64 x.Room))]
def Network.rs (t:TE) (x:Network):List R:=[.s 6 (t.r_Leg x.Legs),.s 1 (t.r_I64 x.Off),.v (.int .i64 x.Change)]
def Network.ds (t:TE) (x:Network):List D:=[.o 6 (t.d_Leg x.Legs),.o 1 (t.d_I64 x.Off),.r (.v (.int .i64 x.Change))]
def Trip.rs (t:TE) (x:Trip):List R:=[.v (.int .i64 x.Leg),.v (.int .i64 x.Day)]
def Trip.ds (t:TE) (x:Trip):List D:=[.r (.v (.int .i64 x.Leg)),.r (.v (.int .i64 x.Day))]
def Scan.rs (t:TE) (x:Scan):List R:=[.v (.int .i64 x.Thing),.v (.int .i64 x.At),.v (.int .i64 x.Kind),.v (.string x.Place),.v (.int .i64 x.Trip.Leg),.v (.int .i64 x.Trip.Day)]
def Scan.ds (t:TE) (x:Scan):List D:=[.r (.v (.int .i64 x.Thing)),.r (.v (.int .i64 x.At)),.r (.v (.int .i64 x.Kind)),.r (.v (.string x.Place)),.r (.v (.int .i64 x.Trip.Leg)),.r (.v (.int .i64 x.Trip.Day))]
def Spot.rs (t:TE) (x:Spot):List R:=[.v (.string x.Place),.v (.int .i64 x.At)]
def Spot.ds (t:TE) (x:Spot):List D:=[.r (.v (.string x.Place)),.r (.v (.int .i64 x.At))]
def Cur.rs (t:TE) (x:Cur):List R:=[.s 1 (t.r_U8 x.b),.v (.int .i64 x.i),.v (.int .i64 x.h)]
def Cur.ds (t:TE) (x:Cur):List D:=[.r (.s 1 (t.r_U8 x.b)),.r (.v (.int .i64 x.i)),.r (.v (.int .i64 x.h))]
def U8.rs (t:TE) (x:Int):List R:=[.v (.int .u8 x)]
def U8.ds (t:TE) (x:Int):List D:=[.r (.v (.int .u8 x))]
def I64.rs (t:TE) (x:Int):List R:=[.v (.int .i64 x)]
def I64.ds (t:TE) (x:Int):List D:=[.r (.v (.int .i64 x))]
def S.rs (t:TE) (x:ByteArray):List R:=[.v (.string x)]
def S.ds (t:TE) (x:ByteArray):List D:=[.r (.v (.string x))]
theorem f6 {α β:Type} (f:α→β) {l:List α} {i:Nat} {x:α} (h:l[i]?=some x):(l.map f)[i]?=some (f x):=by rw[List.getElem?_map,h];rfl
theorem f7 {α:Type} {f:α→List D} {q:α→List R} (h:∀x,cO (f x)=q x) (l:List α):toRdss (l.map f)=l.map q:=by
 induction l with
 |nil=>rfl
 |cons x l ih=>simp only[List.map_cons,toRdss,h,ih]
theorem tI {α:Type} {f:α→List D} (h:∀x,kS (f x)=true) (l:List α):fY (l.map f)=true:=by
 induction l with
 |nil=>rfl
 |cons x l ih=>simp only[List.map_cons,fY,h,ih,Bool.and_self]
theorem tE {t:TE} (ht:t=TE.real) (l:List Int):bsR (t.r_U8 l)=some l:=by
 subst ht
 induction l with
 |nil=>rfl
 |cons x l ih=>
  have e:TE.real.r_U8 (x::l)=[.v (.int .u8 x)]::TE.real.r_U8 l:=rfl
  rw[e,bsR,ih]
  rfl
theorem s6 (l:List Int):TE.real.r_U8 l=l.map (U8.rs TE.real):=rfl
theorem mL (l:List Int):TE.real.d_U8 l=l.map (U8.ds TE.real):=rfl
theorem vN (x:Int):cO (U8.ds TE.real x)=U8.rs TE.real x:=by simp[U8.ds,U8.rs,cO,gM]
theorem vw (l:List Int):toRdss (TE.real.d_U8 l)=TE.real.r_U8 l:=by rw[mL,s6];exact f7 vN l
section
variable {g:G} {t:TE} (hg:g=G.real) (ht:t=TE.real)
include ht
theorem sf (l:List Int):(t.d_U8 l).length=l.length:=by subst ht;rw[mL];simp
theorem pN {l:List Int} {n:Nat} (h:n=(t.d_U8 l).length):0+n≤(t.d_U8 l).length:=by omega
include hg
theorem th (l:List Int):List.map (U8.ds t) l=t.d_U8 l:=by subst ht;rfl
theorem pR (l:List Int):l.length=g.dlen (t.d_U8 l):=by subst hg;subst ht;rw[mL];simp[G.real]
theorem jR (l:List Int):g.dlen (t.d_U8 l)=(t.d_U8 l).length:=by subst hg;rfl
theorem vZ (l:List Int) (lo n:Nat):g.rd (t.d_U8 l) lo n=t.r_U8 (List.take n (List.drop lo l)):=by
 subst hg;subst ht
 rw[←vw,mL,mL]
 simp[G.real]
theorem sk {l:List Int} {n:Nat} (h:n=(t.d_U8 l).length):g.rd (t.d_U8 l) 0 n=t.r_U8 l:=by rw[vZ hg ht,h,sf ht];simp
@[simp] theorem llen_U8 (l:List Int):G.real.llen (TE.real.r_U8 l)=(l.length:Int):=by rw[s6];simp[G.real]
@[simp] theorem vU (l:List Int):G.real.dlen (TE.real.d_U8 l)=l.length:=by rw[mL];simp[G.real]
@[simp] theorem v6 (l:List Int):(TE.real.r_U8 l).length=l.length:=by rw[s6];simp
end
theorem j5 (l:List Leg):TE.real.r_Leg l=l.map (Leg.rs TE.real):=rfl
theorem e7 (l:List Leg):TE.real.d_Leg l=l.map (Leg.ds TE.real):=rfl
theorem tH (x:Leg):cO (Leg.ds TE.real x)=Leg.rs TE.real x:=by simp[Leg.ds,Leg.rs,cO,gM]
theorem uk (l:List Leg):toRdss (TE.real.d_Leg l)=TE.real.r_Leg l:=by rw[e7,j5];exact f7 tH l
section
variable {g:G} {t:TE} (hg:g=G.real) (ht:t=TE.real)
include ht
theorem iL (l:List Leg):(t.r_Leg l).length=l.length:=by subst ht;rw[j5];simp
theorem qK (l:List Leg) (i:Nat) (x:Leg):(t.d_Leg (l.set i x)).length=(t.d_Leg l).length:=by subst ht;rw[e7,e7];simp
include hg
theorem cg {l:List Leg} {i:Nat} {x:Leg} (h:l[i]?=some x):(t.r_Leg l)[i]?=some (Leg.rs t x):=by subst ht;rw[j5];exact f6 _ h
theorem qA {l:List Leg} {i:Nat} {x:Leg} (h:l[i]?=some x):(t.d_Leg l)[i]?=some (Leg.ds t x):=by subst ht;rw[e7];exact f6 _ h
theorem dw {l:List Leg} {i:Int} {k:Nat} {x:Leg} (hi:i=((k:Nat):Int)) (h:l[k]?=some x):(t.r_Leg l)[g.nat i]?=some (Leg.rs t x):=by
 subst hg;subst hi;exact cg rfl ht (by simpa [G.real] using h)
theorem fS (l:List Leg):g.dlen (t.d_Leg l)=(t.d_Leg l).length:=by subst hg;rfl
theorem tq (j:Int) (z:Leg):g.drep j (Leg.ds t z)=t.d_Leg (List.replicate (g.nat j) z):=by subst hg;subst ht;rw[e7];simp[G.real]
theorem q9 (j:Int) (z:Leg):g.nat j=g.dlen (t.d_Leg (List.replicate (g.nat j) z)):=by subst hg;subst ht;rw[e7];simp[G.real]
theorem s8 (l:List Leg) (i:Nat) (x:Leg):g.dset (t.d_Leg l) i (Leg.ds t x)=t.d_Leg (l.set i x):=by subst hg;subst ht;rw[e7,e7];simp[G.real,List.map_set]
theorem uA (l:List Leg):g.rda (t.d_Leg l)=t.r_Leg l:=by subst hg;subst ht;exact uk l
theorem cv {l:List Leg} {i:Int} {k:Nat} (hi:i=((k:Nat):Int)) (hc:k<l.length):g.lt i (g.llen (t.r_Leg l))=true:=by subst hg;simp[G.real,iL ht];omega
theorem ci {l:List Leg} {i:Int} {k:Nat} (hi:i=((k:Nat):Int)) (hc:¬k<l.length):g.lt i (g.llen (t.r_Leg l))=false:=by subst hg;simp[G.real,iL ht];omega
theorem dY {l:List Leg} {i:Int} {k:Nat} (hi:i=((k:Nat):Int)) (hc:k<l.length) (hm:(t.r_Leg l).length≤maxLen):g.wrap .i64 (g.add i 1)=((k+1:Nat):Int):=by
 subst hg;rw[iL ht] at hm;unfold maxLen at hm;simp only[G.real];rw[i64_in]<;>omega
@[simp] theorem fy (l:List Leg):G.real.llen (TE.real.r_Leg l)=(l.length:Int):=by rw[j5];simp[G.real]
@[simp] theorem qB (l:List Leg):G.real.dlen (TE.real.d_Leg l)=l.length:=by rw[e7];simp[G.real]
@[simp] theorem vS (l:List Leg):(TE.real.r_Leg l).length=l.length:=by rw[j5];simp
end
theorem kW (l:List Int):TE.real.r_I64 l=l.map (I64.rs TE.real):=rfl
theorem e8 (l:List Int):TE.real.d_I64 l=l.map (I64.ds TE.real):=rfl
theorem tG (x:Int):cO (I64.ds TE.real x)=I64.rs TE.real x:=by simp[I64.ds,I64.rs,cO,gM]
theorem uw (l:List Int):toRdss (TE.real.d_I64 l)=TE.real.r_I64 l:=by rw[e8,kW];exact f7 tG l
section
variable {g:G} {t:TE} (hg:g=G.real) (ht:t=TE.real)
include ht
theorem iE (l:List Int):(t.r_I64 l).length=l.length:=by subst ht;rw[kW];simp
theorem qH (l:List Int) (i:Nat) (x:Int):(t.d_I64 (l.set i x)).length=(t.d_I64 l).length:=by subst ht;rw[e8,e8];simp
include hg
theorem gb {l:List Int} {i:Nat} {x:Int} (h:l[i]?=some x):(t.r_I64 l)[i]?=some (I64.rs t x):=by subst ht;rw[kW];exact f6 _ h
theorem rj {l:List Int} {i:Nat} {x:Int} (h:l[i]?=some x):(t.d_I64 l)[i]?=some (I64.ds t x):=by subst ht;rw[e8];exact f6 _ h
theorem cM {l:List Int} {i:Int} {k:Nat} {x:Int} (hi:i=((k:Nat):Int)) (h:l[k]?=some x):(t.r_I64 l)[g.nat i]?=some (I64.rs t x):=by
 subst hg;subst hi;exact gb rfl ht (by simpa [G.real] using h)
theorem fV (l:List Int):g.dlen (t.d_I64 l)=(t.d_I64 l).length:=by subst hg;rfl
theorem sE (j:Int) (z:Int):g.drep j (I64.ds t z)=t.d_I64 (List.replicate (g.nat j) z):=by subst hg;subst ht;rw[e8];simp[G.real]
theorem rH (j:Int) (z:Int):g.nat j=g.dlen (t.d_I64 (List.replicate (g.nat j) z)):=by subst hg;subst ht;rw[e8];simp[G.real]
theorem sd (l:List Int) (i:Nat) (x:Int):g.dset (t.d_I64 l) i (I64.ds t x)=t.d_I64 (l.set i x):=by subst hg;subst ht;rw[e8,e8];simp[G.real,List.map_set]
theorem tY (l:List Int):g.rda (t.d_I64 l)=t.r_I64 l:=by subst hg;subst ht;exact uw l
theorem cw {l:List Int} {i:Int} {k:Nat} (hi:i=((k:Nat):Int)) (hc:k<l.length):g.lt i (g.llen (t.r_I64 l))=true:=by subst hg;simp[G.real,iE ht];omega
theorem ch {l:List Int} {i:Int} {k:Nat} (hi:i=((k:Nat):Int)) (hc:¬k<l.length):g.lt i (g.llen (t.r_I64 l))=false:=by subst hg;simp[G.real,iE ht];omega
theorem dW {l:List Int} {i:Int} {k:Nat} (hi:i=((k:Nat):Int)) (hc:k<l.length) (hm:(t.r_I64 l).length≤maxLen):g.wrap .i64 (g.add i 1)=((k+1:Nat):Int):=by
 subst hg;rw[iE ht] at hm;unfold maxLen at hm;simp only[G.real];rw[i64_in]<;>omega
@[simp] theorem kg (l:List Int):G.real.llen (TE.real.r_I64 l)=(l.length:Int):=by rw[kW];simp[G.real]
@[simp] theorem qx (l:List Int):G.real.dlen (TE.real.d_I64 l)=l.length:=by rw[e8];simp[G.real]
@[simp] theorem vR (l:List Int):(TE.real.r_I64 l).length=l.length:=by rw[kW];simp
end
theorem wm (x:ByteArray):kS (S.ds TE.real x)=true:=rfl
theorem tu (l:List ByteArray):TE.real.r_S l=l.map (S.rs TE.real):=rfl
theorem jM (l:List ByteArray):TE.real.d_S l=l.map (S.ds TE.real):=rfl
theorem wa (x:ByteArray):cO (S.ds TE.real x)=S.rs TE.real x:=by simp[S.ds,S.rs,cO,gM]
theorem wj (l:List ByteArray):toRdss (TE.real.d_S l)=TE.real.r_S l:=by rw[jM,tu];exact f7 wa l
section
variable {g:G} {t:TE} (hg:g=G.real) (ht:t=TE.real)
include ht
theorem nm (l:List ByteArray):(t.r_S l).length=l.length:=by subst ht;rw[tu];simp
theorem f9 (l:List ByteArray):(t.d_S l).length=l.length:=by subst ht;rw[jM];simp
theorem u9 {l l2:List ByteArray} {n:Nat} (h:n=(t.d_S l).length) (h2:l2.length=l.length):n=(t.d_S l2).length:=by rw[h,f9 ht,f9 ht,h2]
theorem nf {l:List ByteArray} {n:Nat} (h:n=(t.d_S l).length):0+n≤(t.d_S l).length:=by omega
include hg
theorem uo {l:List ByteArray} {i:Nat} {x:ByteArray} (h:l[i]?=some x):(t.r_S l)[i]?=some (S.rs t x):=by subst ht;rw[tu];exact f6 _ h
theorem f8 {l:List ByteArray} {i:Nat} {x:ByteArray} (h:l[i]?=some x):(t.d_S l)[i]?=some (S.ds t x):=by subst ht;rw[jM];exact f6 _ h
theorem n6 {l:List ByteArray} {i:Int} {k:Nat} {x:ByteArray} (hi:i=((k:Nat):Int)) (h:l[k]?=some x):(t.r_S l)[g.nat i]?=some (S.rs t x):=by
 subst hg;subst hi;exact uo rfl ht (by simpa [G.real] using h)
theorem eF (l:List ByteArray):List.map (S.ds t) l=t.d_S l:=by subst ht;rfl
theorem dk (l:List ByteArray):l.length=g.dlen (t.d_S l):=by subst hg;subst ht;rw[jM];simp[G.real]
theorem an (l:List ByteArray):g.dlen (t.d_S l)=(t.d_S l).length:=by subst hg;rfl
theorem eE {l m:List ByteArray} {n:Nat} {news:List (List D)} (h1:n=(t.d_S l).length) (h2:news=t.d_S m):g.dapp (t.d_S l) n news=t.d_S (l++m):=by
 subst h1;subst h2;subst hg;subst ht;simp only[jM,G.real,List.map_append,List.take_length]
theorem de {l m:List ByteArray} {n:Nat} {news:List (List D)} (h1:n=(t.d_S l).length) (h2:news=t.d_S m):g.nadd n (g.dlen news)=g.dlen (t.d_S (l++m)):=by
 subst h1;subst h2;subst hg;subst ht;simp only[jM,G.real,List.map_append,List.length_append]
theorem bK {l m:List ByteArray} {n b:Nat} {news:List (List D)} (h1:n=(t.d_S l).length) (h2:news=t.d_S m) (h:(l.length+m.length)*b≤70368744177664) (hb:0<b:=by decide):0=0∧n≤(t.d_S l).length∧n+news.length≤maxLen∧(n+news.length)*b≤140737488355328:=
 tP h1 (f9 ht l) (h2▸f9 ht m) hb h
theorem rd_S (l:List ByteArray) (lo n:Nat):g.rd (t.d_S l) lo n=t.r_S (List.take n (List.drop lo l)):=by
 subst hg;subst ht
 rw[←wj,jM,jM]
 simp[G.real]
theorem pO {l:List ByteArray} {n:Nat} (h:n=(t.d_S l).length):g.rd (t.d_S l) 0 n=t.r_S l:=by rw[rd_S hg ht,h,f9 ht];simp
theorem kw {l:List ByteArray} {i:Int} {k:Nat} (hi:i=((k:Nat):Int)) (hc:k<l.length):g.lt i (g.llen (t.r_S l))=true:=by subst hg;simp[G.real,nm ht];omega
theorem jh {l:List ByteArray} {i:Int} {k:Nat} (hi:i=((k:Nat):Int)) (hc:¬k<l.length):g.lt i (g.llen (t.r_S l))=false:=by subst hg;simp[G.real,nm ht];omega
theorem qp {l:List ByteArray} {i:Int} {k:Nat} (hi:i=((k:Nat):Int)) (hc:k<l.length) (hm:(t.r_S l).length≤maxLen):g.wrap .i64 (g.add i 1)=((k+1:Nat):Int):=by
 subst hg;rw[nm ht] at hm;unfold maxLen at hm;simp only[G.real];rw[i64_in]<;>omega
@[simp] theorem llen_S (l:List ByteArray):G.real.llen (TE.real.r_S l)=(l.length:Int):=by rw[tu];simp[G.real]
@[simp] theorem p9 (l:List ByteArray):G.real.dlen (TE.real.d_S l)=l.length:=by rw[jM];simp[G.real]
@[simp] theorem rlenx_S (l:List ByteArray):(TE.real.r_S l).length=l.length:=by rw[tu];simp
theorem bk (m:List ByteArray) (lo n:Nat):g.dsub (t.d_S m) lo n=t.d_S (List.take n (List.drop lo m)):=by subst hg;subst ht;rw[jM,jM];simp[G.real]
theorem cP {m:List ByteArray} {lo n:Nat} (h:lo+n≤m.length):lo+n≤(t.d_S m).length∧fY (((t.d_S m).drop lo).take n)=true:=by
 subst ht;refine⟨by rw[f9 rfl];exact h,?_⟩
 rw[jM,←List.map_drop,←List.map_take];exact tI wm _
end
end Go.Vs
