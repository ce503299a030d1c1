/- Part of the proofs of this seat's laws: Dra. No condition. -/
import Derived.Test.YtdgkokanccedkaaGreatDoorVf
import Derived.Test.YtdgkokanccedkaaGreatDoorLac
import Derived.Test.YtdgkokanccedkaaGreatDoorNet
import Derived.Test.YtdgkokanccedkaaGreatDoorLab
set_option linter.unusedVariables false
set_option linter.unusedSimpArgs false
set_option linter.unusedSectionVars false
namespace Go.Vs
open Go.IntWalk
theorem ww {α:Type} {l:List α} {i:Int} (h0:0≤i) (h1:i<l.length):∃x,l[i.toNat]?=some x∧x∈l:=by
 have hlt:i.toNat<l.length:=by omega
 exact⟨l[i.toNat],by simp[hlt],List.getElem_mem hlt⟩
def Ok {α:Type} (Q:α→Prop) (o:Option α):Prop:=∃r,o=some r∧Q r
section
variable {α β:Type} {Q:α→Prop} {R:β→Prop}
theorem Ok.ret {r:α} (h:Q r):Ok Q (some r):=⟨r,rfl,h⟩
theorem Ok.cl {m:Option β} {k:β→Option α} (h:Ok R m) (hk:∀r,R r→Ok Q (k r)):Ok Q (cl m k):=by
 obtain⟨r,rfl,hr⟩:=h
 rw[ag];exact hk r hr
theorem Ok.lP {x:β} {k:β→Option α} (h:Ok Q (k x)):Ok Q (lP x k):=h
theorem Ok.gd {p:Prop} [Decidable p] {k:Option α} (hp:p) (h:Ok Q k):Ok Q (gd p k):=by rw[af hp];exact h
theorem Ok.br {c:Bool} {a b:Option α} (h1:c=true→Ok Q a) (h2:c=false→Ok Q b):Ok Q (br c a b):=by
 cases c with
 |true=>exact h1 rfl
 |false=>exact h2 rfl
theorem Ok.gt {l:List β} {i:Nat} {k:β→Option α} {x:β} (hx:l[i]?=some x) (h:Ok Q (k x)):Ok Q (gt l i k):=by rw[ay hx];exact h
theorem Ok.gti {l:List β} {i:Int} {k:β→Option α} (h0:0≤i) (h1:i<l.length) (h:∀x∈l,Ok Q (k x)):Ok Q (Vs.gt l (G.real.nat i) k):=by
 obtain⟨x,hx,hm⟩:=ww h0 h1
 exact Ok.gt hx (h x hm)
theorem Ok.mono {Q':α→Prop} {o:Option α} (h:Ok Q o) (hq:∀r,Q r→Q' r):Ok Q' o:=by
 obtain⟨r,h1,h2⟩:=h;exact⟨r,h1,hq r h2⟩
end
def bt (c:Cur):Prop:=0≤c.i∧c.b.length≤1000000
theorem ng (a:Int):0≤G.real.band .i64 a 255∧G.real.band .i64 a 255≤255:=by
 have h:(BitVec.ofInt 64 a&&& BitVec.ofInt 64 255).toNat≤255:=by
  rw[BitVec.toNat_and]
  exact Nat.le_trans Nat.and_le_right (by decide)
 have e:G.real.band .i64 a 255=(((BitVec.ofInt 64 a&&& BitVec.ofInt 64 255).toNat:Nat):Int):=w64 (n:=(((BitVec.ofInt 64 a&&& BitVec.ofInt 64 255).toNat:Nat):Int)) (by omega) (by omega)
 rw[e]
 omega
theorem jo (c:Cur) (h:bt c):Ok (fun r=>0≤r.1∧r.1≤255∧bt r.2) (fd G.real TE.real c):=by
 unfold fd
 refine Ok.br (fun hc=>?_) (fun _=>?_)
 ·have hc:c.i<c.b.length:=by simpa using hc
  obtain⟨z,hz,_⟩:=ww h.1 hc
  refine Ok.gd h.1 (Ok.gt (x:=z) hz (Ok.ret ⟨(ng _).1,(ng _).2,?_,h.2⟩))
  have h2:=h.1
  have h3:=h.2
  show 0≤G.real.wrap .i64 (c.i+1)
  rw[w64 (by omega) (by omega)]
  omega
 ·exact Ok.ret ⟨(ng _).1,(ng _).2,h⟩
theorem aL (c:Cur) (h:bt c) (n:Int):Ok (fun r=>0≤r.1∧(0<n→r.1<n)∧bt r.2) (aE G.real TE.real c n):=by
 unfold aE
 refine Ok.br (fun hc=>?_) (fun hc=>Ok.br (fun _=>?_) (fun _=>?_))
 ·have hc:n≤0:=by simpa using hc
  exact Ok.ret ⟨Int.le_refl _,fun hn=>by omega,h⟩
 ·have hc:0<n:=by simpa using hc
  refine Ok.cl (jo c h) fun x hx=>Ok.gd (by omega) (Ok.ret ⟨?_,fun _=>?_,hx.2.2⟩)
  ·exact Int.tmod_nonneg _ hx.1
  ·exact Int.tmod_lt_of_pos _ hc
 ·have hc:0<n:=by simpa using hc
  refine Ok.cl (jo c h) fun x hx=>Ok.cl (jo _ hx.2.2) fun y hy=>Ok.cl (jo _ hy.2.2) fun z hz=>Ok.gd (by omega) (Ok.ret ⟨?_,fun _=>?_,hz.2.2⟩)
  ·refine Int.tmod_nonneg _ ?_
   obtain⟨x1,x2,_⟩:=hx
   obtain⟨y1,y2,_⟩:=hy
   obtain⟨z1,z2,_⟩:=hz
   simp only[bT,jL]
   rw[w64 (n:=x.1*65536) (by omega) (by omega),w64 (n:=y.1*256) (by omega) (by omega),w64 (n:=x.1*65536+y.1*256) (by omega) (by omega),w64 (by omega) (by omega)]
   omega
  ·exact Int.tmod_lt_of_pos _ hc
theorem d9 (c:Cur) (h:bt c) (n:Int):Ok (fun r=>bt r.2) (cZ G.real TE.real c n):=by
 unfold cZ
 exact Ok.cl (aL c h n) fun x hx=>Ok.ret hx.2.2
theorem bZ (c:Cur) (h:bt c) (l:List Int) (hl:l≠[]):Ok (fun r=>r.1∈l∧bt r.2) (bS G.real TE.real c l):=by
 unfold bS
 rw[show G.real.llen (TE.real.r_I64 l)=(l.length:Int) from by simp]
 have hp:0<l.length:=List.length_pos_iff.2 hl
 refine Ok.cl (aL c h _) fun x hx=>Ok.gd hx.1 ?_
 obtain⟨z,hz,hm⟩:=ww hx.1 (hx.2.1 (by omega))
 exact Ok.gt hz (Ok.ret ⟨hm,hx.2.2⟩)
theorem oj (c:Cur) (h:bt c) (l:List ByteArray) (hl:l≠[]):Ok (fun r=>r.1∈l∧bt r.2) (hB G.real TE.real c l):=by
 unfold hB
 rw[show G.real.llen (TE.real.r_S l)=(l.length:Int) from by simp]
 have hp:0<l.length:=List.length_pos_iff.2 hl
 refine Ok.cl (aL c h _) fun x hx=>Ok.gd hx.1 ?_
 obtain⟨z,hz,hm⟩:=ww hx.1 (hx.2.1 (by omega))
 exact Ok.gt hz (Ok.ret ⟨hm,hx.2.2⟩)
def I64 (x:Int):Prop:= -9223372036854775808≤x∧x≤9223372036854775807
theorem wv (c:Cur) (h:bt c):Ok (fun r=>I64 r.1∧bt r.2) (kI G.real TE.real c):=by
 unfold kI
 refine Ok.lP (Ok.cl (bZ c h _ (by simp)) fun x hx=>Ok.ret ⟨?_,hx.2⟩)
 have:=hx.1
 simp only[List.mem_cons,List.not_mem_nil,or_false] at this
 unfold I64
 omega
theorem jW (c:Cur) (h:bt c):Ok (fun r=>r.1.size≤10∧bt r.2) (eP G.real TE.real c):=by
 unfold eP
 refine Ok.lP (Ok.cl (oj c h _ (by simp)) fun x hx=>Ok.ret ⟨?_,hx.2⟩)
 have:=hx.1
 show x.1.size≤10
 generalize x.1=y at this
 simp only[List.mem_cons,List.not_mem_nil,or_false] at this
 rcases this with rfl|rfl|rfl|rfl|rfl|rfl|rfl<;>decide
theorem yB (a:List Int) (h:a.length≤4096):bt (mT G.real TE.real a):=⟨Int.le_refl _,by show a.length≤_;omega⟩
end Go.Vs
namespace Go.Vs
open Go.IntWalk
structure LegW (l:Leg):Prop where
 from_:l.From.size≤10
 to_:l.To.size≤10
 start: -10≤l.Start∧l.Start≤2000
 takes:0≤l.Takes∧l.Takes≤5000
structure NetW (n:Network):Prop where
 some_:1≤n.Legs.length
 len:n.Legs.length≤60
 legs:∀x∈n.Legs,LegW x
 off:n.Off.length≤10
theorem xF {l:Leg} (h:LegW l):Leg.tot l≤20:=by
 have h1:=h.from_
 have h2:=h.to_
 unfold Leg.tot;omega
theorem uI {α:Type} (f:α→Nat) (c:Nat):∀(l:List α),(∀y∈l,f y≤c)→fU f l≤c*l.length
 |[],_=>Nat.zero_le _
 |y::l,h=>by
  have h1:=uI f c l fun z hz=>h z (List.mem_cons_of_mem _ hz)
  have h2:=h y (List.mem_cons_self ..)
  unfold fU at h1 ⊢
  rw[List.map_cons,List.sum_cons,List.length_cons,Nat.mul_add]
  omega
theorem rC {n:Network} (h:NetW n):n.tot≤1048576:=by
 have h1:=uI (fun y=>Leg.tot y) 20 n.Legs fun y hy=>xF (h.legs y hy)
 have h2:=h.len
 have h3:=h.off
 unfold Network.tot
 omega
theorem lI (m:Nat) (b:List Int) (i h:Int) {x y:ByteArray} (hne:x≠y):cB G.real TE.real (m+1) b i h x y=some (b,i,h,x,y):=by
 rw[cB,bL,al,if_neg hne]
theorem z4 {y:ByteArray} (h:y∈[fZ,iK,iF]):iX≠y:=by
 intro e
 subst e
 simp only[List.mem_cons,List.not_mem_nil,or_false] at h
 rcases h with h|h|h<;> ·have:=congrArg (fun b:ByteArray=>b.data) h;revert this;decide
theorem sx {y:ByteArray} (h:y∈[fZ,iK,iF]):y.size≤10:=by
 simp only[List.mem_cons,List.not_mem_nil,or_false] at h
 rcases h with rfl|rfl|rfl<;>decide
theorem vn (m:Nat) (c:Cur) (h:bt c) {x y:ByteArray} (hx:x.size≤10) (hy:y.size≤10):
 Ok (fun r=>bt (Cur.mk r.1 r.2.1 r.2.2.1)∧r.2.2.2.1.size≤10∧r.2.2.2.2.size≤10) (cB G.real TE.real (m+2) c.b c.i c.h x y):=by
 by_cases he:x=y
 ·rw[cB]
  simp only[bL,al]
  rw[if_pos he]
  refine Ok.lP (Ok.cl (oj c h _ (by simp)) fun z hz=>?_)
  by_cases h2:x=z.1
  ·rw[if_pos h2,lI m _ _ _ (z4 hz.1)]
   exact Ok.ret ⟨hz.2,(by decide:(iX).size≤10),sx hz.1⟩
  ·rw[if_neg h2,lI m _ _ _ h2]
   exact Ok.ret ⟨hz.2,hx,sx hz.1⟩
 ·rw[lI (m+1) _ _ _ he]
  exact Ok.ret ⟨h,hx,hy⟩
theorem xL (c:Cur) (h:bt c):Ok (fun r=>LegW r.1∧bt r.2∧0≤r.1.Start) (kB G.real TE.real c):=by
 unfold kB
 refine Ok.cl (jW c h) fun x1 h1=>Ok.cl (jW _ h1.2) fun x2 h2=>Ok.cl (aL _ h2.2 48) fun x3 h3=>Ok.cl (aL _ h3.2.2 40) fun x4 h4=>Ok.cl (aL _ h4.2.2 127) fun x5 h5=>Ok.cl (aL _ h5.2.2 60) fun x6 h6=>?_
 refine Ok.cl (vn 999999998 _ h6.2.2 h1.1 h2.1) fun y hy=>Ok.cl (d9 _ hy.1 2) fun x8 h8=>?_
 have b3:=h3.2.1 (by omega)
 have b4:=h4.2.1 (by omega)
 have hs0:0≤G.real.wrap .i64 (G.real.mul 30 x3.1):=by
  have:=h3.1
  simp only[jL]
  rw[w64 (by omega) (by omega)];omega
 have hst: -10≤G.real.wrap .i64 (G.real.mul 30 x3.1)∧G.real.wrap .i64 (G.real.mul 30 x3.1)≤2000:=by
  have:=h3.1
  simp only[jL]
  rw[w64 (by omega) (by omega)];omega
 have htk:0≤G.real.wrap .i64 (G.real.mul 30 (G.real.wrap .i64 (G.real.add 1 x4.1)))∧G.real.wrap .i64 (G.real.mul 30 (G.real.wrap .i64 (G.real.add 1 x4.1)))≤5000:=by
  have:=h4.1
  simp only[jL,bT]
  rw[w64 (n:=1+x4.1) (by omega) (by omega),w64 (by omega) (by omega)];omega
 have hin:∀z:Int,z∈([1,1440,4320]:List Int)→0≤z∧z≤5000:=fun z hz=>by
  simp only[List.mem_cons,List.not_mem_nil,or_false] at hz;omega
 refine Ok.br (fun _=>?_) (fun _=>?_)
 ·refine Ok.cl (d9 _ h8 9) fun x9 h9=>Ok.br (fun _=>?_) (fun _=>?_)
  ·refine Ok.lP (Ok.cl (bZ _ h9 _ (by simp)) fun x10 h10=>Ok.ret ⟨⟨hy.2.1,hy.2.2,hst,hin _ h10.1⟩,h10.2,hs0⟩)
  ·exact Ok.ret ⟨⟨hy.2.1,hy.2.2,hst,htk⟩,h9,hs0⟩
 ·refine Ok.cl (d9 _ h8 9) fun x9 h9=>Ok.br (fun _=>?_) (fun _=>?_)
  ·refine Ok.lP (Ok.cl (bZ _ h9 _ (by simp)) fun x10 h10=>Ok.ret ⟨⟨hy.2.1,hy.2.2,hst,hin _ h10.1⟩,h10.2,hs0⟩)
  ·exact Ok.ret ⟨⟨hy.2.1,hy.2.2,hst,htk⟩,h9,hs0⟩
theorem ij (most:Int):∀(k fuel:Nat) (c:Cur) (w:List Leg),k<fuel→bt c→w.length+2*k≤100→(∀x∈w,LegW x)→
 Ok (fun r=>bt (Cur.mk r.1 r.2.1 r.2.2.1)∧(∀x∈r.2.2.2,LegW x)∧w.length+k≤r.2.2.2.length∧r.2.2.2.length≤w.length+2*k) (bG G.real TE.real most fuel c.b c.i c.h w (k:Int))
 |_,0,_,_,hf,_,_,_=>absurd hf (Nat.not_lt_zero _)
 |0,fuel+1,c,w,_,hc,hw,hl=>by
  rw[bG,eM,al,if_neg (by omega)]
  exact Ok.ret ⟨hc,hl,Nat.le_refl _,Nat.le_refl _⟩
 |k+1,fuel+1,c,w,hf,hc,hw,hl=>by
  rw[bG]
  simp only[eM,ku,dP,jw,al]
  rw[if_pos (show(0:Int)<((k+1:Nat):Int) by omega),w64 (n:=((k+1:Nat):Int)-1) (by omega) (by omega),show((k+1:Nat):Int)-1=(k:Int) by omega]
  refine Ok.cl (xL c hc) fun x3 h3=>Ok.lP (Ok.gd (by simp;omega) (Ok.lP (Ok.cl (d9 _ h3.2.1 3) fun x4 h4=>?_)))
  have hl2:∀x∈w++[Leg.mk x3.1.From x3.1.To x3.1.Start x3.1.Takes x3.1.Days x3.1.Room],LegW x:=fun x hx=>by
   rcases List.mem_append.1 hx with hx|hx
   ·exact hl x hx
   ·rw[List.mem_singleton.1 hx];exact h3.1
  have hk2:(w++[Leg.mk x3.1.From x3.1.To x3.1.Start x3.1.Takes x3.1.Days x3.1.Room]).length=w.length+1:=by simp
  generalize w++[Leg.mk x3.1.From x3.1.To x3.1.Start x3.1.Takes x3.1.Days x3.1.Room]=u at hl2 hk2 ⊢
  have rest:∀c2:Cur,bt c2→Ok (fun r=>bt (Cur.mk r.1 r.2.1 r.2.2.1)∧(∀x∈r.2.2.2,LegW x)∧w.length+(k+1)≤r.2.2.2.length∧r.2.2.2.length≤w.length+2* (k+1)) (bG G.real TE.real most fuel c2.b c2.i c2.h u (k:Int)):=fun c2 h2=>
   (ij most k fuel c2 u (by omega) h2 (by omega) hl2).mono fun r hr=>⟨hr.1,hr.2.1,by omega,by omega⟩
  refine Ok.br (fun _=>?_) (fun _=>rest _ h4)
  split
  ·rw[w64 (by omega) (by omega)]
   refine Ok.gd (by omega) (Ok.gti (by omega) (by omega) fun x5 h5=>Ok.gd (by omega) (Ok.cl (aL _ h4 20) fun x6 h6=>Ok.lP (Ok.gd (by simp;omega) (Ok.lP ?_))))
   have b6:=h6.2.1 (by omega)
   have hnew:LegW (Leg.mk x5.To x5.From (G.real.rem (G.real.wrap .i64 (G.real.add x3.1.Start (G.real.wrap .i64 (G.real.mul 60 x6.1)))) 1440) x3.1.Takes x3.1.Days x3.1.Room):=by
    refine⟨(hl2 _ h5).to_,(hl2 _ h5).from_,?_,h3.1.takes⟩
    have s3:=h3.1.start
    have:=h6.1
    simp only[lj,bT,jL]
    rw[w64 (n:=60*x6.1) (by omega) (by omega),w64 (by omega) (by omega)]
    have q1:=Int.tmod_lt_of_pos (x3.1.Start+60*x6.1) (b:=1440) (by omega)
    have q2:=h3.2.2
    have q3:=Int.tmod_nonneg 1440 (show 0≤x3.1.Start+60*x6.1 by omega)
    omega
   refine(ij most k fuel x6.2 _ (by omega) h6.2.2 (by simp;omega) (fun x hx=>?_)).mono fun r hr=>⟨hr.1,hr.2.1,?_,?_⟩
   ·rcases List.mem_append.1 hx with hx|hx
    ·exact hl2 x hx
    ·rw[List.mem_singleton.1 hx];exact hnew
   ·have:=hr.2.2.1;simp at this;omega
   ·have:=hr.2.2.2;simp at this;omega
  ·exact rest _ h4
theorem qa (c:Cur) (h:bt c) (most:Int) (h1:1≤most) (h2:most≤10):Ok (fun r=>(NetW r.1∧r.1.Legs.length≤20∧r.1.Off.length≤2)∧bt r.2) (gM G.real TE.real c most):=by
 unfold gM
 refine Ok.cl (aL c h 9) fun x1 q1=>Ok.cl (aL _ q1.2.2 most) fun x2 q2=>?_
 have b2:=q2.2.1 (by omega)
 have e:G.real.wrap .i64 (G.real.add 1 x2.1)=(((1+x2.1).toNat:Nat):Int):=by
  have:=q2.1
  rw[bT,w64 (by omega) (by omega)];omega
 rw[e]
 refine Ok.cl (ij most (1+x2.1).toNat 1000000000 x2.2 [] (by omega) q2.2.2 (by simp;omega) (by simp)) fun y hy=>?_
 have q2a:=q2.1
 have l1:=hy.2.2.1
 have l2:=hy.2.2.2
 simp only[List.length_nil,Nat.zero_add] at l1 l2
 refine Ok.cl (d9 _ hy.1 2) fun x7 h7=>Ok.br (fun _=>?_) (fun _=>?_)
 ·refine Ok.cl (aL _ h7 3) fun x8 h8=>Ok.cl (aL _ h8.2.2 4) fun x9 h9=>Ok.lP (Ok.ret ⟨⟨⟨?_,?_,hy.2.1,?_⟩,?_⟩,h9.2.2⟩)
  ·show 1≤y.2.2.2.length;omega
  ·show y.2.2.2.length≤60;omega
  ·show[x8.1,_].length≤10;simp
  ·exact⟨by show y.2.2.2.length≤20;omega,by show[x8.1,_].length≤2;simp⟩
 ·refine Ok.ret ⟨⟨⟨?_,?_,hy.2.1,?_⟩,?_⟩,h7⟩
  ·show 1≤y.2.2.2.length;omega
  ·show y.2.2.2.length≤60;omega
  ·show([]:List Int).length≤10;simp
  ·exact⟨by show y.2.2.2.length≤20;omega,Nat.zero_le _⟩
theorem lX (x:Int×Cur) (h0:0≤x.1):∀(fuel:Nat) (w:List Leg),21-w.length<fuel→x.1<w.length→w.length≤40→(∀z∈w,LegW z)→
 Ok (fun r=>(∀z∈r,LegW z)∧21≤r.length∧r.length≤40) (d7 G.real TE.real x fuel w)
 |0,_,hf,_,_,_=>absurd hf (Nat.not_lt_zero _)
 |fuel+1,w,hf,hx,hw,hl=>by
  rw[d7]
  simp only[eM,dP,jw,al]
  by_cases hc:(w.length:Int)<21
  ·rw[if_pos hc]
   refine Ok.gd ⟨h0,hx⟩ (Ok.gti h0 hx fun z hz=>Ok.lP (Ok.gd (by simp;omega) (Ok.lP ?_)))
   refine lX x h0 fuel _ (by simp;omega) (by simp;omega) (by simp;omega) (fun y hy=>?_)
   rcases List.mem_append.1 hy with hy|hy
   ·exact hl y hy
   ·rw[List.mem_singleton.1 hy];exact hl z hz
  ·rw[if_neg hc]
   exact Ok.ret ⟨hl,by omega,hw⟩
theorem xk {l:List Leg} (h:∀z∈l,LegW z) {i:Nat} {x:Leg} (hx:LegW x):∀z∈l.set i x,LegW z:=fun z hz=>by
 rcases List.mem_or_eq_of_mem_set hz with hz|hz
 ·exact h z hz
 ·rw[hz];exact hx
theorem xU (c:Cur) (h:bt c):Ok (fun r=>NetW r.1∧bt r.2) (kE G.real TE.real c):=by
 unfold kE
 refine Ok.cl (qa c h 6 (by omega) (by omega)) fun x1 h1=>?_
 obtain⟨⟨hn,hn2,hoff⟩,h1⟩:=h1
 have hs:=hn.some_
 simp only[dP,jw]
 refine Ok.cl (aL _ h1 _) fun x2 h2=>Ok.cl (aL _ h2.2.2 10) fun x3 h3=>?_
 have b2:=h2.2.1 (by omega)
 have hset:∀(x:Leg),LegW x→NetW (Network.mk (x1.1.Legs.set (G.real.nat x2.1) x) x1.1.Off x1.1.Change):=fun x hx=>
  ⟨by rw[List.length_set];exact hs,by rw[List.length_set];exact hn.len,xk hn.legs hx,hn.off⟩
 have in4:∀{z a b e f:Int},z∈[a,b,e,f]→z=a∨z=b∨z=e∨z=f:=fun hz=>by simpa using hz
 refine Ok.br (fun _=>?_) (fun _=>Ok.br (fun _=>?_) (fun _=>Ok.br (fun _=>?_) (fun _=>Ok.br (fun _=>?_) (fun _=>Ok.br (fun _=>?_) (fun _=>Ok.br (fun _=>?_) (fun _=>Ok.br (fun _=>?_) (fun _=>?_)))))))
 ·refine Ok.lP (Ok.cl (bZ _ h3.2.2 _ (by simp)) fun x4 h4=>Ok.gd ⟨h2.1,b2⟩ (Ok.gti h2.1 b2 fun x5 h5=>Ok.lP (Ok.ret ⟨hset _ ?_,h4.2⟩)))
  have:=in4 h4.1
  exact⟨(hn.legs _ h5).from_,(hn.legs _ h5).to_,⟨by show-10≤x4.1;omega,by show x4.1≤2000;omega⟩,(hn.legs _ h5).takes⟩
 ·refine Ok.lP (Ok.cl (bZ _ h3.2.2 _ (by simp)) fun x4 h4=>Ok.gd ⟨h2.1,b2⟩ (Ok.gti h2.1 b2 fun x5 h5=>Ok.lP (Ok.ret ⟨hset _ ?_,h4.2⟩)))
  have:=in4 h4.1
  exact⟨(hn.legs _ h5).from_,(hn.legs _ h5).to_,(hn.legs _ h5).start,⟨by show 0≤x4.1;omega,by show x4.1≤5000;omega⟩⟩
 ·refine Ok.lP (Ok.cl (bZ _ h3.2.2 _ (by simp)) fun x4 h4=>Ok.gd ⟨h2.1,b2⟩ (Ok.gti h2.1 b2 fun x5 h5=>Ok.lP (Ok.ret ⟨hset _ ?_,h4.2⟩)))
  exact⟨(hn.legs _ h5).from_,(hn.legs _ h5).to_,(hn.legs _ h5).start,(hn.legs _ h5).takes⟩
 ·have ho:=hn.off
  refine Ok.lP (Ok.cl (bZ _ h3.2.2 _ (by simp)) fun x4 h4=>Ok.lP (Ok.gd (by simp;omega) (Ok.lP (Ok.ret ⟨⟨hs,hn.len,hn.legs,?_⟩,h4.2⟩))))
  show(x1.1.Off++[x4.1]).length≤10
  simp;omega
 ·refine Ok.lP (Ok.cl (bZ _ h3.2.2 _ (by simp)) fun x4 h4=>Ok.ret ⟨⟨hs,hn.len,hn.legs,hn.off⟩,h4.2⟩)
 ·refine Ok.gd ⟨h2.1,b2⟩ (Ok.gti h2.1 b2 fun x5 h5=>Ok.gd ⟨h2.1,b2⟩ (Ok.lP (Ok.ret ⟨hset _ ?_,h3.2.2⟩)))
  exact⟨(hn.legs _ h5).from_,(hn.legs _ h5).from_,(hn.legs _ h5).start,(hn.legs _ h5).takes⟩
 ·refine Ok.cl (lX x2 h2.1 1000000000 x1.1.Legs (by omega) b2 (by omega) hn.legs) fun y hy=>Ok.lP (Ok.cl (bZ _ h3.2.2 _ (by simp)) fun x4 h4=>?_)
  have h20:x4.1=20∨x4.1=21:=by simpa using h4.1
  refine Ok.gd ⟨by omega,by omega⟩ (Ok.lP (Ok.ret ⟨⟨?_,?_,fun z hz=>hy.1 z ?_,hn.off⟩,h4.2⟩))
  ·show 1≤(List.take x4.1.toNat (List.drop 0 y)).length
   rw[List.drop_zero,List.length_take];omega
  ·show(List.take x4.1.toNat (List.drop 0 y)).length≤60
   rw[List.drop_zero,List.length_take];omega
  ·have hz:z∈List.take x4.1.toNat (List.drop 0 y):=hz
   rw[List.drop_zero] at hz
   exact List.mem_of_mem_take hz
 ·exact Ok.ret ⟨hn,h3.2.2⟩
theorem ub (c:Cur) (h:bt c) {n:Network} (hn:NetW n):Ok (fun r=>r.1.size≤10∧bt r.2) (lR G.real TE.real c n):=by
 have pl:=nf n
 have hl:=hn.len
 have hs:=hn.some_
 unfold lR
 rw[ye (by omega),ag]
 refine Ok.cl (d9 c h 9) fun x2 h2=>Ok.br (fun _=>?_) (fun _=>?_)
 ·exact Ok.cl (jW _ h2) fun x3 h3=>Ok.ret h3
 ·simp only[dP,fz]
  have hp:0<(plc n).length:=by
   obtain⟨z,hz⟩:∃z,z∈n.Legs:=⟨n.Legs[0],List.getElem_mem _⟩
   exact List.length_pos_of_mem ((kM n z.From).2 ⟨z,hz,.inl rfl⟩)
  refine Ok.cl (aL _ h2 _) fun x4 h4=>?_
  have b4:=h4.2.1 (by omega)
  refine Ok.gd ⟨h4.1,b4⟩ (Ok.gti h4.1 b4 fun x5 h5=>Ok.ret ⟨?_,h4.2.2⟩)
  obtain⟨z,hz,hz2⟩:=(kM n x5).1 h5
  rcases hz2 with rfl|rfl
  ·exact(hn.legs z hz).from_
  ·exact(hn.legs z hz).to_
end Go.Vs
namespace Go.Vs
open Go.IntWalk
theorem Ok.any {α β:Type} {Q:α→Prop} {m:Option β} {k:β→Option α} (h:∃x,m=some x) (hk:∀r,Ok Q (k r)):Ok Q (Vs.cl m k):=by
 obtain⟨x,rfl⟩:=h
 rw[ag];exact hk x
theorem sQ {n:Network} (hn:n.Legs.length≤1048576) (l a:Int):∀(m:Nat) (v:Int),∃o,cf G.real TE.real n l a m v=some o
 |0,v=>⟨_,by rw[cf]⟩
 |m+1,v=>by
  obtain⟨o,ho⟩:=sQ hn l a m (G.real.wrap .i64 (G.real.add v 1))
  rw[cf,yL hn,ag]
  cases hr:runsB n l v with
  |false=>rw[mO];exact⟨o,ho⟩
  |true=>
   obtain⟨r1,r2,_⟩:=gn hn hr
   obtain⟨z,hz,_⟩:=ww r1 r2
   unfold cv
   rw[cK,af r1,eb,ay hz,ag]
   generalize G.real.le a _=b
   cases b with
   |true=>exact⟨_,rfl⟩
   |false=>exact⟨o,ho⟩
theorem BE {n:Network} (hn:n.Legs.length≤1048576) (l a:Int):∃d,iQ G.real TE.real n l a=some d:=by
 obtain⟨o,ho⟩:=sQ hn l a (dn 0 60) 0
 unfold iQ
 rw[ho,ag]
 cases o with
 |ret d=>exact⟨d,rfl⟩
 |out u=>exact⟨_,rfl⟩
theorem vS (c:Cur) (h:bt c) {n:Network} (hn:NetW n):Ok (fun r=>bt r.2) (iD G.real TE.real c n):=by
 have hl:=hn.len
 unfold iD
 refine Ok.cl (aL c h _) fun x1 h1=>Ok.cl (aL _ h1.2.2 10) fun x2 h2=>Ok.any (BE (by omega) _ _) fun x3=>?_
 refine Ok.br (fun _=>Ok.cl (d9 _ h2.2.2 4) fun x4 h4=>Ok.br (fun _=>Ok.ret h4) (fun _=>Ok.ret h4)) (fun _=>Ok.ret h2.2.2)
end Go.Vs
namespace Go.Vs
open Go.IntWalk
theorem ta {n:Network} (ht:n.tot≤1048576) (t:Trip):fX G.real TE.real n t=some (if ik n t=true then stN n t.Leg t.Day else-1):=by
 unfold fX
 rw[s0 ht,ag]
 cases hb:ik n t with
 |false=>rfl
 |true=>
  have h:=hb
  unfold ik at h
  rw[Bool.and_eq_true] at h
  obtain⟨r1,r2,r3,r4⟩:=gn (kU ht) h.2
  rw[cK,show cv G.real TE.real n t=some (stN n t.Leg t.Day) from qM (fr ht h.1) r1 r2 r3 r4];rfl
theorem xn {n:Network} (ht:n.tot≤1048576) (t:Trip):ip G.real TE.real n t=some (if ik n t=true then enN n t.Leg t.Day else-1):=by
 unfold ip
 rw[s0 ht,ag]
 cases hb:ik n t with
 |false=>rfl
 |true=>
  have h:=hb
  unfold ik at h
  rw[Bool.and_eq_true] at h
  obtain⟨r1,r2,r3,r4⟩:=gn (kU ht) h.2
  rw[cK,show fW G.real TE.real n t=some (enN n t.Leg t.Day) from zM (fr ht h.1) r1 r2 r3 r4];rfl
theorem vh (c:Cur) (h:bt c) {n:Network} (hn:NetW n):Ok (fun r=>bt r.2) (iP G.real TE.real c n):=by
 have ht:=rC hn
 unfold iP
 refine Ok.cl (aL c h 3) fun x1 h1=>Ok.cl (aL _ h1.2.2 120) fun x2 h2=>Ok.cl (aL _ h2.2.2 4) fun x3 h3=>Ok.cl (vS _ h3.2.2 hn) fun x4 h4=>?_
 refine Ok.br (fun _=>?_) (fun _=>Ok.br (fun _=>?_) (fun _=>Ok.br (fun _=>?_) (fun _=>?_)))
 ·exact Ok.cl (ub _ h4 hn) fun x5 h5=>Ok.ret h5.2
 ·exact Ok.cl (ub _ h4 hn) fun x5 h5=>Ok.ret h5.2
 ·exact Ok.any ⟨_,ta ht _⟩ fun x7=>Ok.lP (Ok.cl (bZ _ h4 _ (by simp)) fun x8 h8=>Ok.lP (Ok.ret h8.2))
 ·exact Ok.any ⟨_,xn ht _⟩ fun x7=>Ok.lP (Ok.cl (bZ _ h4 _ (by simp)) fun x8 h8=>Ok.lP (Ok.ret h8.2))
theorem qG (c:Cur) (h:bt c) {n:Network} (hn:NetW n):Ok (fun r=>bt r.2) (ff G.real TE.real c n):=by
 unfold ff
 refine Ok.cl (vh c h hn) fun x1 h1=>Ok.cl (aL _ h1 9) fun x2 h2=>?_
 refine Ok.br (fun _=>?_) (fun _=>Ok.br (fun _=>?_) (fun _=>Ok.br (fun _=>?_) (fun _=>Ok.br (fun _=>?_) (fun _=>Ok.br (fun _=>?_) (fun _=>Ok.br (fun _=>?_) (fun _=>?_))))))
 ·exact Ok.lP (Ok.cl (bZ _ h2.2.2 _ (by simp)) fun x3 h3=>Ok.ret h3.2)
 ·exact Ok.cl (wv _ h2.2.2) fun x3 h3=>Ok.ret h3.2
 ·exact Ok.cl (aL _ h2.2.2 6) fun x3 h3=>Ok.ret h3.2.2
 ·exact Ok.lP (Ok.cl (oj _ h2.2.2 _ (by simp)) fun x3 h3=>Ok.ret h3.2)
 ·exact Ok.lP (Ok.cl (bZ _ h2.2.2 _ (by simp)) fun x3 h3=>Ok.ret h3.2)
 ·exact Ok.lP (Ok.cl (bZ _ h2.2.2 _ (by simp)) fun x3 h3=>Ok.ret h3.2)
 ·exact Ok.ret h2.2.2
theorem yM (c:Cur) (h:bt c):Ok (fun r=>NetW r.1∧bt r.2) (lk G.real TE.real c):=by
 unfold lk
 refine Ok.cl (d9 c h 12) fun x1 h1=>Ok.br (fun _=>?_) (fun _=>?_)
 ·exact Ok.cl (xU _ h1) fun x2 h2=>Ok.ret h2
 ·exact Ok.cl (qa _ h1 6 (by omega) (by omega)) fun x2 h2=>Ok.ret ⟨h2.1.1,h2.2⟩
theorem pb (a:List Int) (h:a.length≤4096):Ok (fun r=>r.1.tot≤1048576) (cG G.real TE.real a):=by
 unfold cG fD
 refine Ok.cl (Ok.lP (Ok.cl (yM _ (yB a h)) fun x2 h2=>Ok.cl (qG _ h2.2 h2.1) fun x3 h3=>Ok.ret (rC h2.1))) fun x1 h1=>Ok.ret h1
end Go.Vs
