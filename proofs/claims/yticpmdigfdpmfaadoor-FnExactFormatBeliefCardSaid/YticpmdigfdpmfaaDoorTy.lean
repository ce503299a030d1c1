/- Part of the proofs of this seat's laws: Ty. No condition. -/
import Derived.Test.YticpmdigfdpmfaaDoorVf
set_option linter.unusedVariables false
set_option linter.unusedSimpArgs false
set_option linter.unusedSectionVars false
namespace Go.Vs
open Go.IntWalk
set_option linter.unusedVariables false
set_option linter.unusedSimpArgs false
set_option linter.unusedSectionVars false
structure Trip where
 Leg:Int
 Day:Int
structure Belief where
 Places:List ByteArray
 Rides:List Trip
def rS (l:List ByteArray):List (List R):=l.map fun x=>[.v (.string x)]
def dS (l:List ByteArray):List (List D):=l.map fun x=>[.r (.v (.string x))]
def rQ (l:List Trip):List (List R):=l.map fun x=>[.v (.int .i64 x.Leg),.v (.int .i64 x.Day)]
def rM (l:List Trip):List (List D):=l.map fun x=>[.r (.v (.int .i64 x.Leg)),.r (.v (.int .i64 x.Day))]
def rU8 (l:List Int):List (List R):=l.map fun x=>[.v (.int .u8 x)]
def dU8 (l:List Int):List (List D):=l.map fun x=>[.r (.v (.int .u8 x))]
structure TE where
 r_S:List ByteArray→List (List R)
 d_S:List ByteArray→List (List D)
 r_Trip:List Trip→List (List R)
 d_Trip:List Trip→List (List D)
 r_U8:List Int→List (List R)
 d_U8:List Int→List (List D)
def TE.real:TE:=⟨rS,dS,rQ,rM,rU8,dU8⟩
def Trip.rs (t:TE) (x:Trip):List R:=[.v (.int .i64 x.Leg),.v (.int .i64 x.Day)]
def Trip.ds (t:TE) (x:Trip):List D:=[.r (.v (.int .i64 x.Leg)),.r (.v (.int .i64 x.Day))]
def Belief.rs (t:TE) (x:Belief):List R:=[.s 1 (t.r_S x.Places),.s 2 (t.r_Trip x.Rides)]
def Belief.ds (t:TE) (x:Belief):List D:=[.o 1 (t.d_S x.Places),.o 2 (t.d_Trip x.Rides)]
def S.rs (t:TE) (x:ByteArray):List R:=[.v (.string x)]
def S.ds (t:TE) (x:ByteArray):List D:=[.r (.v (.string x))]
def U8.rs (t:TE) (x:Int):List R:=[.v (.int .u8 x)]
def U8.ds (t:TE) (x:Int):List D:=[.r (.v (.int .u8 x))]
theorem gL {α β:Type} (f:α→β) {l:List α} {i:Nat} {x:α} (h:l[i]?=some x):(l.map f)[i]?=some (f x):=by rw[List.getElem?_map,h];rfl
theorem fL {α:Type} {f:α→List D} {q:α→List R} (h:∀x,cd (f x)=q x) (l:List α):toRdss (l.map f)=l.map q:=by
 induction l with
 |nil=>rfl
 |cons x l ih=>simp only[List.map_cons,toRdss,h,ih]
theorem ow {t:TE} (ht:t=TE.real) (l:List Int):bsR (t.r_U8 l)=some l:=by
 subst ht
 induction l with
 |nil=>rfl
 |cons x l ih=>
  have e:TE.real.r_U8 (x::l)=[.v (.int .u8 x)]::TE.real.r_U8 l:=rfl
  rw[e,bsR,ih]
  rfl
theorem nL (l:List ByteArray):TE.real.r_S l=l.map (S.rs TE.real):=rfl
theorem ep (l:List ByteArray):TE.real.d_S l=l.map (S.ds TE.real):=rfl
theorem rK (x:ByteArray):cd (S.ds TE.real x)=S.rs TE.real x:=by simp[S.ds,S.rs,cd,fB]
theorem qm (l:List ByteArray):toRdss (TE.real.d_S l)=TE.real.r_S l:=by rw[ep,nL];exact fL rK l
section
variable {g:G} {t:TE} (hg:g=G.real) (ht:t=TE.real)
include ht
theorem jZ (l:List ByteArray):(t.r_S l).length=l.length:=by subst ht;rw[nL];simp
theorem kq (l:List ByteArray):(t.d_S l).length=l.length:=by subst ht;rw[ep];simp
theorem pD (l:List ByteArray) (i:Nat) (x:ByteArray):(t.d_S (l.set i x)).length=(t.d_S l).length:=by subst ht;rw[ep,ep];simp
theorem ru {l:List ByteArray} {n:Nat} (h:n=(t.d_S l).length):0+n≤(t.d_S l).length:=by omega
include hg
theorem mF {l:List ByteArray} {i:Nat} {x:ByteArray} (h:l[i]?=some x):(t.r_S l)[i]?=some (S.rs t x):=by subst ht;rw[nL];exact gL _ h
theorem qe {l:List ByteArray} {i:Nat} {x:ByteArray} (h:l[i]?=some x):(t.d_S l)[i]?=some (S.ds t x):=by subst ht;rw[ep];exact gL _ h
theorem e7 {l:List ByteArray} {i:Int} {k:Nat} {x:ByteArray} (hi:i=((k:Nat):Int)) (h:l[k]?=some x):(t.r_S l)[g.nat i]?=some (S.rs t x):=by
 subst hg;subst hi;exact mF rfl ht (by simpa [G.real] using h)
theorem qn (l:List ByteArray):List.map (S.ds t) l=t.d_S l:=by subst ht;rfl
theorem pl (l:List ByteArray):l.length=g.dlen (t.d_S l):=by subst hg;subst ht;rw[ep];simp[G.real]
theorem bZ (l:List ByteArray):g.dlen (t.d_S l)=(t.d_S l).length:=by subst hg;rfl
theorem qH (j:Int) (z:ByteArray):g.drep j (S.ds t z)=t.d_S (List.replicate (g.nat j) z):=by subst hg;subst ht;rw[ep];simp[G.real]
theorem p9 (j:Int) (z:ByteArray):g.nat j=g.dlen (t.d_S (List.replicate (g.nat j) z)):=by subst hg;subst ht;rw[ep];simp[G.real]
theorem qM (l:List ByteArray) (i:Nat) (x:ByteArray):g.dset (t.d_S l) i (S.ds t x)=t.d_S (l.set i x):=by subst hg;subst ht;rw[ep,ep];simp[G.real,List.map_set]
theorem ql {l m:List ByteArray} {n:Nat} {news:List (List D)} (h1:n=(t.d_S l).length) (h2:news=t.d_S m):g.dapp (t.d_S l) n news=t.d_S (l++m):=by
 subst h1;subst h2;subst hg;subst ht;simp only[ep,G.real,List.map_append,List.take_length]
theorem pz {l m:List ByteArray} {n:Nat} {news:List (List D)} (h1:n=(t.d_S l).length) (h2:news=t.d_S m):g.nadd n (g.dlen news)=g.dlen (t.d_S (l++m)):=by
 subst h1;subst h2;subst hg;subst ht;simp only[ep,G.real,List.map_append,List.length_append]
theorem lE {l m:List ByteArray} {n b:Nat} {news:List (List D)} (h1:n=(t.d_S l).length) (h2:news=t.d_S m) (h:(l.length+m.length)*b≤70368744177664) (hb:0<b:=by decide):0=0∧n≤(t.d_S l).length∧n+news.length≤maxLen∧(n+news.length)*b≤140737488355328:=
 pR h1 (kq ht l) (h2▸kq ht m) hb h
theorem rA (l:List ByteArray):g.rda (t.d_S l)=t.r_S l:=by subst hg;subst ht;exact qm l
theorem rd_S (l:List ByteArray) (lo n:Nat):g.rd (t.d_S l) lo n=t.r_S (List.take n (List.drop lo l)):=by
 subst hg;subst ht
 rw[←qm,ep,ep]
 simp[G.real]
theorem rI {l:List ByteArray} {n:Nat} (h:n=(t.d_S l).length):g.rd (t.d_S l) 0 n=t.r_S l:=by rw[rd_S hg ht,h,kq ht];simp
theorem dT {l:List ByteArray} {i:Int} {k:Nat} (hi:i=((k:Nat):Int)) (hc:k<l.length):g.lt i (g.llen (t.r_S l))=true:=by subst hg;simp[G.real,jZ ht];omega
theorem c8 {l:List ByteArray} {i:Int} {k:Nat} (hi:i=((k:Nat):Int)) (hc:¬k<l.length):g.lt i (g.llen (t.r_S l))=false:=by subst hg;simp[G.real,jZ ht];omega
theorem gK {l:List ByteArray} {i:Int} {k:Nat} (hi:i=((k:Nat):Int)) (hc:k<l.length) (hm:(t.r_S l).length≤maxLen):g.wrap .i64 (g.add i 1)=((k+1:Nat):Int):=by
 subst hg;rw[jZ ht] at hm;unfold maxLen at hm;simp only[G.real];rw[i64_in]<;>omega
@[simp] theorem pk (l:List ByteArray):G.real.llen (TE.real.r_S l)=(l.length:Int):=by rw[nL];simp[G.real]
@[simp] theorem mq (l:List ByteArray):G.real.dlen (TE.real.d_S l)=l.length:=by rw[ep];simp[G.real]
@[simp] theorem rlenx_S (l:List ByteArray):(TE.real.r_S l).length=l.length:=by rw[nL];simp
theorem qX (m:List ByteArray):g.up (t.r_S m)=t.d_S m:=by subst hg;subst ht;rw[nL,ep];simp[G.real,S.rs,S.ds]
end
theorem fA (l:List Trip):TE.real.r_Trip l=l.map (Trip.rs TE.real):=rfl
theorem cP (l:List Trip):TE.real.d_Trip l=l.map (Trip.ds TE.real):=rfl
theorem o7 (x:Trip):cd (Trip.ds TE.real x)=Trip.rs TE.real x:=by simp[Trip.ds,Trip.rs,cd,fB]
theorem oB (l:List Trip):toRdss (TE.real.d_Trip l)=TE.real.r_Trip l:=by rw[cP,fA];exact fL o7 l
section
variable {g:G} {t:TE} (hg:g=G.real) (ht:t=TE.real)
include ht
theorem eR (l:List Trip):(t.r_Trip l).length=l.length:=by subst ht;rw[fA];simp
theorem lM (l:List Trip) (i:Nat) (x:Trip):(t.d_Trip (l.set i x)).length=(t.d_Trip l).length:=by subst ht;rw[cP,cP];simp
include hg
theorem hB {l:List Trip} {i:Nat} {x:Trip} (h:l[i]?=some x):(t.r_Trip l)[i]?=some (Trip.rs t x):=by subst ht;rw[fA];exact gL _ h
theorem mh {l:List Trip} {i:Nat} {x:Trip} (h:l[i]?=some x):(t.d_Trip l)[i]?=some (Trip.ds t x):=by subst ht;rw[cP];exact gL _ h
theorem ct {l:List Trip} {i:Int} {k:Nat} {x:Trip} (hi:i=((k:Nat):Int)) (h:l[k]?=some x):(t.r_Trip l)[g.nat i]?=some (Trip.rs t x):=by
 subst hg;subst hi;exact hB rfl ht (by simpa [G.real] using h)
theorem dC (l:List Trip):g.dlen (t.d_Trip l)=(t.d_Trip l).length:=by subst hg;rfl
theorem nm (j:Int) (z:Trip):g.drep j (Trip.ds t z)=t.d_Trip (List.replicate (g.nat j) z):=by subst hg;subst ht;rw[cP];simp[G.real]
theorem md (j:Int) (z:Trip):g.nat j=g.dlen (t.d_Trip (List.replicate (g.nat j) z)):=by subst hg;subst ht;rw[cP];simp[G.real]
theorem ny (l:List Trip) (i:Nat) (x:Trip):g.dset (t.d_Trip l) i (Trip.ds t x)=t.d_Trip (l.set i x):=by subst hg;subst ht;rw[cP,cP];simp[G.real,List.map_set]
theorem oR (l:List Trip):g.rda (t.d_Trip l)=t.r_Trip l:=by subst hg;subst ht;exact oB l
theorem cj {l:List Trip} {i:Int} {k:Nat} (hi:i=((k:Nat):Int)) (hc:k<l.length):g.lt i (g.llen (t.r_Trip l))=true:=by subst hg;simp[G.real,eR ht];omega
theorem bX {l:List Trip} {i:Int} {k:Nat} (hi:i=((k:Nat):Int)) (hc:¬k<l.length):g.lt i (g.llen (t.r_Trip l))=false:=by subst hg;simp[G.real,eR ht];omega
theorem dH {l:List Trip} {i:Int} {k:Nat} (hi:i=((k:Nat):Int)) (hc:k<l.length) (hm:(t.r_Trip l).length≤maxLen):g.wrap .i64 (g.add i 1)=((k+1:Nat):Int):=by
 subst hg;rw[eR ht] at hm;unfold maxLen at hm;simp only[G.real];rw[i64_in]<;>omega
@[simp] theorem jP (l:List Trip):G.real.llen (TE.real.r_Trip l)=(l.length:Int):=by rw[fA];simp[G.real]
@[simp] theorem mb (l:List Trip):G.real.dlen (TE.real.d_Trip l)=l.length:=by rw[cP];simp[G.real]
@[simp] theorem rt (l:List Trip):(TE.real.r_Trip l).length=l.length:=by rw[fA];simp
end
theorem oE (l:List Int):TE.real.r_U8 l=l.map (U8.rs TE.real):=rfl
theorem jB (l:List Int):TE.real.d_U8 l=l.map (U8.ds TE.real):=rfl
theorem rm (x:Int):cd (U8.ds TE.real x)=U8.rs TE.real x:=by simp[U8.ds,U8.rs,cd,fB]
theorem rh (l:List Int):toRdss (TE.real.d_U8 l)=TE.real.r_U8 l:=by rw[jB,oE];exact fL rm l
section
variable {g:G} {t:TE} (hg:g=G.real) (ht:t=TE.real)
include ht
theorem ou (l:List Int):(t.d_U8 l).length=l.length:=by subst ht;rw[jB];simp
theorem mT {l:List Int} {n:Nat} (h:n=(t.d_U8 l).length):0+n≤(t.d_U8 l).length:=by omega
include hg
theorem pt (l:List Int):List.map (U8.ds t) l=t.d_U8 l:=by subst ht;rfl
theorem mE (l:List Int):l.length=g.dlen (t.d_U8 l):=by subst hg;subst ht;rw[jB];simp[G.real]
theorem gF (l:List Int):g.dlen (t.d_U8 l)=(t.d_U8 l).length:=by subst hg;rfl
theorem rC (l:List Int) (lo n:Nat):g.rd (t.d_U8 l) lo n=t.r_U8 (List.take n (List.drop lo l)):=by
 subst hg;subst ht
 rw[←rh,jB,jB]
 simp[G.real]
theorem oZ {l:List Int} {n:Nat} (h:n=(t.d_U8 l).length):g.rd (t.d_U8 l) 0 n=t.r_U8 l:=by rw[rC hg ht,h,ou ht];simp
@[simp] theorem llen_U8 (l:List Int):G.real.llen (TE.real.r_U8 l)=(l.length:Int):=by rw[oE];simp[G.real]
@[simp] theorem rP (l:List Int):G.real.dlen (TE.real.d_U8 l)=l.length:=by rw[jB];simp[G.real]
@[simp] theorem rz (l:List Int):(TE.real.r_U8 l).length=l.length:=by rw[oE];simp
end
end Go.Vs
