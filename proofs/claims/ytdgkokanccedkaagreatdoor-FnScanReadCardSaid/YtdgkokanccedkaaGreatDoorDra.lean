/- Part of the proofs of this seat's laws: Dra. No condition. -/
import Derived.Test.YtdgkokanccedkaaGreatDoorVf
import Derived.Test.YtdgkokanccedkaaGreatDoorLac
import Derived.Test.YtdgkokanccedkaaGreatDoorNet
import Derived.Test.YtdgkokanccedkaaGreatDoorLab
set_option linter.unusedVariables false
set_option linter.unusedSimpArgs false
set_option linter.unusedSectionVars false
namespace Go.Vs
open Go.IntWalk
theorem xh {α:Type} {l:List α} {i:Int} (h0:0≤i) (h1:i<l.length):∃x,l[i.toNat]?=some x∧x∈l:=by
 have hlt:i.toNat<l.length:=by omega
 exact⟨l[i.toNat],by simp[hlt],List.getElem_mem hlt⟩
def Ok {α:Type} (Q:α→Prop) (o:Option α):Prop:=∃r,o=some r∧Q r
section
variable {α β:Type} {Q:α→Prop} {R:β→Prop}
theorem Ok.ret {r:α} (h:Q r):Ok Q (some r):=⟨r,rfl,h⟩
theorem Ok.cl {m:Option β} {k:β→Option α} (h:Ok R m) (hk:∀r,R r→Ok Q (k r)):Ok Q (cl m k):=by
 obtain⟨r,rfl,hr⟩:=h
 rw[ah];exact hk r hr
theorem Ok.lP {x:β} {k:β→Option α} (h:Ok Q (k x)):Ok Q (lP x k):=h
theorem Ok.gd {p:Prop} [Decidable p] {k:Option α} (hp:p) (h:Ok Q k):Ok Q (gd p k):=by rw[af hp];exact h
theorem Ok.br {c:Bool} {a b:Option α} (h1:c=true→Ok Q a) (h2:c=false→Ok Q b):Ok Q (br c a b):=by
 cases c with
 |true=>exact h1 rfl
 |false=>exact h2 rfl
theorem Ok.gt {l:List β} {i:Nat} {k:β→Option α} {x:β} (hx:l[i]?=some x) (h:Ok Q (k x)):Ok Q (gt l i k):=by rw[ay hx];exact h
theorem Ok.gti {l:List β} {i:Int} {k:β→Option α} (h0:0≤i) (h1:i<l.length) (h:∀x∈l,Ok Q (k x)):Ok Q (Vs.gt l (G.real.nat i) k):=by
 obtain⟨x,hx,hm⟩:=xh h0 h1
 exact Ok.gt hx (h x hm)
theorem Ok.mono {Q':α→Prop} {o:Option α} (h:Ok Q o) (hq:∀r,Q r→Q' r):Ok Q' o:=by
 obtain⟨r,h1,h2⟩:=h;exact⟨r,h1,hq r h2⟩
end
def bt (c:Cur):Prop:=0≤c.i∧c.b.length≤1000000
theorem m7 (a:Int):0≤G.real.band .i64 a 255∧G.real.band .i64 a 255≤255:=by
 have h:(BitVec.ofInt 64 a&&& BitVec.ofInt 64 255).toNat≤255:=by
  rw[BitVec.toNat_and]
  exact Nat.le_trans Nat.and_le_right (by decide)
 have e:G.real.band .i64 a 255=(((BitVec.ofInt 64 a&&& BitVec.ofInt 64 255).toNat:Nat):Int):=w64 (n:=(((BitVec.ofInt 64 a&&& BitVec.ofInt 64 255).toNat:Nat):Int)) (by omega) (by omega)
 rw[e]
 omega
theorem ji (c:Cur) (h:bt c):Ok (fun r=>0≤r.1∧r.1≤255∧bt r.2) (fh G.real TE.real c):=by
 unfold fh
 refine Ok.br (fun hc=>?_) (fun _=>?_)
 ·have hc:c.i<c.b.length:=by simpa using hc
  obtain⟨z,hz,_⟩:=xh h.1 hc
  refine Ok.gd h.1 (Ok.gt (x:=z) hz (Ok.ret ⟨(m7 _).1,(m7 _).2,?_,h.2⟩))
  have h2:=h.1
  have h3:=h.2
  show 0≤G.real.wrap .i64 (c.i+1)
  rw[w64 (by omega) (by omega)]
  omega
 ·exact Ok.ret ⟨(m7 _).1,(m7 _).2,h⟩
theorem aK (c:Cur) (h:bt c) (n:Int):Ok (fun r=>0≤r.1∧(0<n→r.1<n)∧bt r.2) (aF G.real TE.real c n):=by
 unfold aF
 refine Ok.br (fun hc=>?_) (fun hc=>Ok.br (fun _=>?_) (fun _=>?_))
 ·have hc:n≤0:=by simpa using hc
  exact Ok.ret ⟨Int.le_refl _,fun hn=>by omega,h⟩
 ·have hc:0<n:=by simpa using hc
  refine Ok.cl (ji c h) fun x hx=>Ok.gd (by omega) (Ok.ret ⟨?_,fun _=>?_,hx.2.2⟩)
  ·exact Int.tmod_nonneg _ hx.1
  ·exact Int.tmod_lt_of_pos _ hc
 ·have hc:0<n:=by simpa using hc
  refine Ok.cl (ji c h) fun x hx=>Ok.cl (ji _ hx.2.2) fun y hy=>Ok.cl (ji _ hy.2.2) fun z hz=>Ok.gd (by omega) (Ok.ret ⟨?_,fun _=>?_,hz.2.2⟩)
  ·refine Int.tmod_nonneg _ ?_
   obtain⟨x1,x2,_⟩:=hx
   obtain⟨y1,y2,_⟩:=hy
   obtain⟨z1,z2,_⟩:=hz
   simp only[bU,jD]
   rw[w64 (n:=x.1*65536) (by omega) (by omega),w64 (n:=y.1*256) (by omega) (by omega),w64 (n:=x.1*65536+y.1*256) (by omega) (by omega),w64 (by omega) (by omega)]
   omega
  ·exact Int.tmod_lt_of_pos _ hc
theorem eb (c:Cur) (h:bt c) (n:Int):Ok (fun r=>bt r.2) (cZ G.real TE.real c n):=by
 unfold cZ
 exact Ok.cl (aK c h n) fun x hx=>Ok.ret hx.2.2
theorem bZ (c:Cur) (h:bt c) (l:List Int) (hl:l≠[]):Ok (fun r=>r.1∈l∧bt r.2) (bS G.real TE.real c l):=by
 unfold bS
 rw[show G.real.llen (TE.real.r_I64 l)=(l.length:Int) from by simp]
 have hp:0<l.length:=List.length_pos_iff.2 hl
 refine Ok.cl (aK c h _) fun x hx=>Ok.gd hx.1 ?_
 obtain⟨z,hz,hm⟩:=xh hx.1 (hx.2.1 (by omega))
 exact Ok.gt hz (Ok.ret ⟨hm,hx.2.2⟩)
theorem nB (c:Cur) (h:bt c) (l:List ByteArray) (hl:l≠[]):Ok (fun r=>r.1∈l∧bt r.2) (gZ G.real TE.real c l):=by
 unfold gZ
 rw[show G.real.llen (TE.real.r_S l)=(l.length:Int) from by simp]
 have hp:0<l.length:=List.length_pos_iff.2 hl
 refine Ok.cl (aK c h _) fun x hx=>Ok.gd hx.1 ?_
 obtain⟨z,hz,hm⟩:=xh hx.1 (hx.2.1 (by omega))
 exact Ok.gt hz (Ok.ret ⟨hm,hx.2.2⟩)
def I64 (x:Int):Prop:= -9223372036854775808≤x∧x≤9223372036854775807
theorem xV (c:Cur) (h:bt c):Ok (fun r=>I64 r.1∧bt r.2) (kR G.real TE.real c):=by
 unfold kR
 refine Ok.lP (Ok.cl (bZ c h _ (by simp)) fun x hx=>Ok.ret ⟨?_,hx.2⟩)
 have:=hx.1
 simp only[List.mem_cons,List.not_mem_nil,or_false] at this
 unfold I64
 omega
theorem km (c:Cur) (h:bt c):Ok (fun r=>r.1.size≤10∧bt r.2) (eM G.real TE.real c):=by
 unfold eM
 refine Ok.lP (Ok.cl (nB c h _ (by simp)) fun x hx=>Ok.ret ⟨?_,hx.2⟩)
 have:=hx.1
 show x.1.size≤10
 generalize x.1=y at this
 simp only[List.mem_cons,List.not_mem_nil,or_false] at this
 rcases this with rfl|rfl|rfl|rfl|rfl|rfl|rfl<;>decide
theorem xk (a:List Int) (h:a.length≤4096):bt (mR G.real TE.real a):=⟨Int.le_refl _,by show a.length≤_;omega⟩
end Go.Vs
namespace Go.Vs
open Go.IntWalk
structure LegW (l:Leg):Prop where
 from_:l.From.size≤10
 to_:l.To.size≤10
 start: -10≤l.Start∧l.Start≤2000
 takes:0≤l.Takes∧l.Takes≤5000
structure NetW (n:Network):Prop where
 some_:1≤n.Legs.length
 len:n.Legs.length≤60
 legs:∀x∈n.Legs,LegW x
 off:n.Off.length≤10
theorem wx {l:Leg} (h:LegW l):Leg.tot l≤20:=by
 have h1:=h.from_
 have h2:=h.to_
 unfold Leg.tot;omega
theorem uf {α:Type} (f:α→Nat) (c:Nat):∀(l:List α),(∀y∈l,f y≤c)→fT f l≤c*l.length
 |[],_=>Nat.zero_le _
 |y::l,h=>by
  have h1:=uf f c l fun z hz=>h z (List.mem_cons_of_mem _ hz)
  have h2:=h y (List.mem_cons_self ..)
  unfold fT at h1 ⊢
  rw[List.map_cons,List.sum_cons,List.length_cons,Nat.mul_add]
  omega
theorem sF {n:Network} (h:NetW n):n.tot≤1048576:=by
 have h1:=uf (fun y=>Leg.tot y) 20 n.Legs fun y hy=>wx (h.legs y hy)
 have h2:=h.len
 have h3:=h.off
 unfold Network.tot
 omega
theorem lA (m:Nat) (b:List Int) (i h:Int) {x y:ByteArray} (hne:x≠y):cz G.real TE.real (m+1) b i h x y=some (b,i,h,x,y):=by
 rw[cz,bL,al,if_neg hne]
theorem AH {y:ByteArray} (h:y∈[gg,iJ,iA]):i8≠y:=by
 intro e
 subst e
 simp only[List.mem_cons,List.not_mem_nil,or_false] at h
 rcases h with h|h|h<;> ·have:=congrArg (fun b:ByteArray=>b.data) h;revert this;decide
theorem sz {y:ByteArray} (h:y∈[gg,iJ,iA]):y.size≤10:=by
 simp only[List.mem_cons,List.not_mem_nil,or_false] at h
 rcases h with rfl|rfl|rfl<;>decide
theorem vf (m:Nat) (c:Cur) (h:bt c) {x y:ByteArray} (hx:x.size≤10) (hy:y.size≤10):
 Ok (fun r=>bt (Cur.mk r.1 r.2.1 r.2.2.1)∧r.2.2.2.1.size≤10∧r.2.2.2.2.size≤10) (cz G.real TE.real (m+2) c.b c.i c.h x y):=by
 by_cases he:x=y
 ·rw[cz]
  simp only[bL,al]
  rw[if_pos he]
  refine Ok.lP (Ok.cl (nB c h _ (by simp)) fun z hz=>?_)
  by_cases h2:x=z.1
  ·rw[if_pos h2,lA m _ _ _ (AH hz.1)]
   exact Ok.ret ⟨hz.2,(by decide:(i8).size≤10),sz hz.1⟩
  ·rw[if_neg h2,lA m _ _ _ h2]
   exact Ok.ret ⟨hz.2,hx,sz hz.1⟩
 ·rw[lA (m+1) _ _ _ he]
  exact Ok.ret ⟨h,hx,hy⟩
theorem xI (c:Cur) (h:bt c):Ok (fun r=>LegW r.1∧bt r.2∧0≤r.1.Start) (lg G.real TE.real c):=by
 unfold lg
 refine Ok.cl (km c h) fun x1 h1=>Ok.cl (km _ h1.2) fun x2 h2=>Ok.cl (aK _ h2.2 48) fun x3 h3=>Ok.cl (aK _ h3.2.2 40) fun x4 h4=>Ok.cl (aK _ h4.2.2 127) fun x5 h5=>Ok.cl (aK _ h5.2.2 60) fun x6 h6=>?_
 refine Ok.cl (vf 999999998 _ h6.2.2 h1.1 h2.1) fun y hy=>Ok.cl (eb _ hy.1 2) fun x8 h8=>?_
 have b3:=h3.2.1 (by omega)
 have b4:=h4.2.1 (by omega)
 have hs0:0≤G.real.wrap .i64 (G.real.mul 30 x3.1):=by
  have:=h3.1
  simp only[jD]
  rw[w64 (by omega) (by omega)];omega
 have hst: -10≤G.real.wrap .i64 (G.real.mul 30 x3.1)∧G.real.wrap .i64 (G.real.mul 30 x3.1)≤2000:=by
  have:=h3.1
  simp only[jD]
  rw[w64 (by omega) (by omega)];omega
 have htk:0≤G.real.wrap .i64 (G.real.mul 30 (G.real.wrap .i64 (G.real.add 1 x4.1)))∧G.real.wrap .i64 (G.real.mul 30 (G.real.wrap .i64 (G.real.add 1 x4.1)))≤5000:=by
  have:=h4.1
  simp only[jD,bU]
  rw[w64 (n:=1+x4.1) (by omega) (by omega),w64 (by omega) (by omega)];omega
 have hin:∀z:Int,z∈([1,1440,4320]:List Int)→0≤z∧z≤5000:=fun z hz=>by
  simp only[List.mem_cons,List.not_mem_nil,or_false] at hz;omega
 refine Ok.br (fun _=>?_) (fun _=>?_)
 ·refine Ok.cl (eb _ h8 9) fun x9 h9=>Ok.br (fun _=>?_) (fun _=>?_)
  ·refine Ok.lP (Ok.cl (bZ _ h9 _ (by simp)) fun x10 h10=>Ok.ret ⟨⟨hy.2.1,hy.2.2,hst,hin _ h10.1⟩,h10.2,hs0⟩)
  ·exact Ok.ret ⟨⟨hy.2.1,hy.2.2,hst,htk⟩,h9,hs0⟩
 ·refine Ok.cl (eb _ h8 9) fun x9 h9=>Ok.br (fun _=>?_) (fun _=>?_)
  ·refine Ok.lP (Ok.cl (bZ _ h9 _ (by simp)) fun x10 h10=>Ok.ret ⟨⟨hy.2.1,hy.2.2,hst,hin _ h10.1⟩,h10.2,hs0⟩)
  ·exact Ok.ret ⟨⟨hy.2.1,hy.2.2,hst,htk⟩,h9,hs0⟩
theorem ib (most:Int):∀(k fuel:Nat) (c:Cur) (w:List Leg),k<fuel→bt c→w.length+2*k≤100→(∀x∈w,LegW x)→
 Ok (fun r=>bt (Cur.mk r.1 r.2.1 r.2.2.1)∧(∀x∈r.2.2.2,LegW x)∧w.length+k≤r.2.2.2.length∧r.2.2.2.length≤w.length+2*k) (bE G.real TE.real most fuel c.b c.i c.h w (k:Int))
 |_,0,_,_,hf,_,_,_=>absurd hf (Nat.not_lt_zero _)
 |0,fuel+1,c,w,_,hc,hw,hl=>by
  rw[bE,eK,al,if_neg (by omega)]
  exact Ok.ret ⟨hc,hl,Nat.le_refl _,Nat.le_refl _⟩
 |k+1,fuel+1,c,w,hf,hc,hw,hl=>by
  rw[bE]
  simp only[eK,kA,dP,jC,al]
  rw[if_pos (show(0:Int)<((k+1:Nat):Int) by omega),w64 (n:=((k+1:Nat):Int)-1) (by omega) (by omega),show((k+1:Nat):Int)-1=(k:Int) by omega]
  refine Ok.cl (xI c hc) fun x3 h3=>Ok.lP (Ok.gd (by simp;omega) (Ok.lP (Ok.cl (eb _ h3.2.1 3) fun x4 h4=>?_)))
  have hl2:∀x∈w++[Leg.mk x3.1.From x3.1.To x3.1.Start x3.1.Takes x3.1.Days x3.1.Room],LegW x:=fun x hx=>by
   rcases List.mem_append.1 hx with hx|hx
   ·exact hl x hx
   ·rw[List.mem_singleton.1 hx];exact h3.1
  have hk2:(w++[Leg.mk x3.1.From x3.1.To x3.1.Start x3.1.Takes x3.1.Days x3.1.Room]).length=w.length+1:=by simp
  generalize w++[Leg.mk x3.1.From x3.1.To x3.1.Start x3.1.Takes x3.1.Days x3.1.Room]=u at hl2 hk2 ⊢
  have rest:∀c2:Cur,bt c2→Ok (fun r=>bt (Cur.mk r.1 r.2.1 r.2.2.1)∧(∀x∈r.2.2.2,LegW x)∧w.length+(k+1)≤r.2.2.2.length∧r.2.2.2.length≤w.length+2* (k+1)) (bE G.real TE.real most fuel c2.b c2.i c2.h u (k:Int)):=fun c2 h2=>
   (ib most k fuel c2 u (by omega) h2 (by omega) hl2).mono fun r hr=>⟨hr.1,hr.2.1,by omega,by omega⟩
  refine Ok.br (fun _=>?_) (fun _=>rest _ h4)
  split
  ·rw[w64 (by omega) (by omega)]
   refine Ok.gd (by omega) (Ok.gti (by omega) (by omega) fun x5 h5=>Ok.gd (by omega) (Ok.cl (aK _ h4 20) fun x6 h6=>Ok.lP (Ok.gd (by simp;omega) (Ok.lP ?_))))
   have b6:=h6.2.1 (by omega)
   have hnew:LegW (Leg.mk x5.To x5.From (G.real.rem (G.real.wrap .i64 (G.real.add x3.1.Start (G.real.wrap .i64 (G.real.mul 60 x6.1)))) 1440) x3.1.Takes x3.1.Days x3.1.Room):=by
    refine⟨(hl2 _ h5).to_,(hl2 _ h5).from_,?_,h3.1.takes⟩
    have s3:=h3.1.start
    have:=h6.1
    simp only[kF,bU,jD]
    rw[w64 (n:=60*x6.1) (by omega) (by omega),w64 (by omega) (by omega)]
    have q1:=Int.tmod_lt_of_pos (x3.1.Start+60*x6.1) (b:=1440) (by omega)
    have q2:=h3.2.2
    have q3:=Int.tmod_nonneg 1440 (show 0≤x3.1.Start+60*x6.1 by omega)
    omega
   refine(ib most k fuel x6.2 _ (by omega) h6.2.2 (by simp;omega) (fun x hx=>?_)).mono fun r hr=>⟨hr.1,hr.2.1,?_,?_⟩
   ·rcases List.mem_append.1 hx with hx|hx
    ·exact hl2 x hx
    ·rw[List.mem_singleton.1 hx];exact hnew
   ·have:=hr.2.2.1;simp at this;omega
   ·have:=hr.2.2.2;simp at this;omega
  ·exact rest _ h4
theorem p9 (c:Cur) (h:bt c) (most:Int) (h1:1≤most) (h2:most≤10):Ok (fun r=>(NetW r.1∧r.1.Legs.length≤20∧r.1.Off.length≤2)∧bt r.2) (gG G.real TE.real c most):=by
 unfold gG
 refine Ok.cl (aK c h 9) fun x1 q1=>Ok.cl (aK _ q1.2.2 most) fun x2 q2=>?_
 have b2:=q2.2.1 (by omega)
 have e:G.real.wrap .i64 (G.real.add 1 x2.1)=(((1+x2.1).toNat:Nat):Int):=by
  have:=q2.1
  rw[bU,w64 (by omega) (by omega)];omega
 rw[e]
 refine Ok.cl (ib most (1+x2.1).toNat 1000000000 x2.2 [] (by omega) q2.2.2 (by simp;omega) (by simp)) fun y hy=>?_
 have q2a:=q2.1
 have l1:=hy.2.2.1
 have l2:=hy.2.2.2
 simp only[List.length_nil,Nat.zero_add] at l1 l2
 refine Ok.cl (eb _ hy.1 2) fun x7 h7=>Ok.br (fun _=>?_) (fun _=>?_)
 ·refine Ok.cl (aK _ h7 3) fun x8 h8=>Ok.cl (aK _ h8.2.2 4) fun x9 h9=>Ok.lP (Ok.ret ⟨⟨⟨?_,?_,hy.2.1,?_⟩,?_⟩,h9.2.2⟩)
  ·show 1≤y.2.2.2.length;omega
  ·show y.2.2.2.length≤60;omega
  ·show[x8.1,_].length≤10;simp
  ·exact⟨by show y.2.2.2.length≤20;omega,by show[x8.1,_].length≤2;simp⟩
 ·refine Ok.ret ⟨⟨⟨?_,?_,hy.2.1,?_⟩,?_⟩,h7⟩
  ·show 1≤y.2.2.2.length;omega
  ·show y.2.2.2.length≤60;omega
  ·show([]:List Int).length≤10;simp
  ·exact⟨by show y.2.2.2.length≤20;omega,Nat.zero_le _⟩
theorem mc (x:Int×Cur) (h0:0≤x.1):∀(fuel:Nat) (w:List Leg),21-w.length<fuel→x.1<w.length→w.length≤40→(∀z∈w,LegW z)→
 Ok (fun r=>(∀z∈r,LegW z)∧21≤r.length∧r.length≤40) (d7 G.real TE.real x fuel w)
 |0,_,hf,_,_,_=>absurd hf (Nat.not_lt_zero _)
 |fuel+1,w,hf,hx,hw,hl=>by
  rw[d7]
  simp only[eK,dP,jC,al]
  by_cases hc:(w.length:Int)<21
  ·rw[if_pos hc]
   refine Ok.gd ⟨h0,hx⟩ (Ok.gti h0 hx fun z hz=>Ok.lP (Ok.gd (by simp;omega) (Ok.lP ?_)))
   refine mc x h0 fuel _ (by simp;omega) (by simp;omega) (by simp;omega) (fun y hy=>?_)
   rcases List.mem_append.1 hy with hy|hy
   ·exact hl y hy
   ·rw[List.mem_singleton.1 hy];exact hl z hz
  ·rw[if_neg hc]
   exact Ok.ret ⟨hl,by omega,hw⟩
theorem wQ {l:List Leg} (h:∀z∈l,LegW z) {i:Nat} {x:Leg} (hx:LegW x):∀z∈l.set i x,LegW z:=fun z hz=>by
 rcases List.mem_or_eq_of_mem_set hz with hz|hz
 ·exact h z hz
 ·rw[hz];exact hx
theorem ww (c:Cur) (h:bt c):Ok (fun r=>NetW r.1∧bt r.2) (lj G.real TE.real c):=by
 unfold lj
 refine Ok.cl (p9 c h 6 (by omega) (by omega)) fun x1 h1=>?_
 obtain⟨⟨hn,hn2,hoff⟩,h1⟩:=h1
 have hs:=hn.some_
 simp only[dP,jC]
 refine Ok.cl (aK _ h1 _) fun x2 h2=>Ok.cl (aK _ h2.2.2 10) fun x3 h3=>?_
 have b2:=h2.2.1 (by omega)
 have hset:∀(x:Leg),LegW x→NetW (Network.mk (x1.1.Legs.set (G.real.nat x2.1) x) x1.1.Off x1.1.Change):=fun x hx=>
  ⟨by rw[List.length_set];exact hs,by rw[List.length_set];exact hn.len,wQ hn.legs hx,hn.off⟩
 have in4:∀{z a b e f:Int},z∈[a,b,e,f]→z=a∨z=b∨z=e∨z=f:=fun hz=>by simpa using hz
 refine Ok.br (fun _=>?_) (fun _=>Ok.br (fun _=>?_) (fun _=>Ok.br (fun _=>?_) (fun _=>Ok.br (fun _=>?_) (fun _=>Ok.br (fun _=>?_) (fun _=>Ok.br (fun _=>?_) (fun _=>Ok.br (fun _=>?_) (fun _=>?_)))))))
 ·refine Ok.lP (Ok.cl (bZ _ h3.2.2 _ (by simp)) fun x4 h4=>Ok.gd ⟨h2.1,b2⟩ (Ok.gti h2.1 b2 fun x5 h5=>Ok.lP (Ok.ret ⟨hset _ ?_,h4.2⟩)))
  have:=in4 h4.1
  exact⟨(hn.legs _ h5).from_,(hn.legs _ h5).to_,⟨by show-10≤x4.1;omega,by show x4.1≤2000;omega⟩,(hn.legs _ h5).takes⟩
 ·refine Ok.lP (Ok.cl (bZ _ h3.2.2 _ (by simp)) fun x4 h4=>Ok.gd ⟨h2.1,b2⟩ (Ok.gti h2.1 b2 fun x5 h5=>Ok.lP (Ok.ret ⟨hset _ ?_,h4.2⟩)))
  have:=in4 h4.1
  exact⟨(hn.legs _ h5).from_,(hn.legs _ h5).to_,(hn.legs _ h5).start,⟨by show 0≤x4.1;omega,by show x4.1≤5000;omega⟩⟩
 ·refine Ok.lP (Ok.cl (bZ _ h3.2.2 _ (by simp)) fun x4 h4=>Ok.gd ⟨h2.1,b2⟩ (Ok.gti h2.1 b2 fun x5 h5=>Ok.lP (Ok.ret ⟨hset _ ?_,h4.2⟩)))
  exact⟨(hn.legs _ h5).from_,(hn.legs _ h5).to_,(hn.legs _ h5).start,(hn.legs _ h5).takes⟩
 ·have ho:=hn.off
  refine Ok.lP (Ok.cl (bZ _ h3.2.2 _ (by simp)) fun x4 h4=>Ok.lP (Ok.gd (by simp;omega) (Ok.lP (Ok.ret ⟨⟨hs,hn.len,hn.legs,?_⟩,h4.2⟩))))
  show(x1.1.Off++[x4.1]).length≤10
  simp;omega
 ·refine Ok.lP (Ok.cl (bZ _ h3.2.2 _ (by simp)) fun x4 h4=>Ok.ret ⟨⟨hs,hn.len,hn.legs,hn.off⟩,h4.2⟩)
 ·refine Ok.gd ⟨h2.1,b2⟩ (Ok.gti h2.1 b2 fun x5 h5=>Ok.gd ⟨h2.1,b2⟩ (Ok.lP (Ok.ret ⟨hset _ ?_,h3.2.2⟩)))
  exact⟨(hn.legs _ h5).from_,(hn.legs _ h5).from_,(hn.legs _ h5).start,(hn.legs _ h5).takes⟩
 ·refine Ok.cl (mc x2 h2.1 1000000000 x1.1.Legs (by omega) b2 (by omega) hn.legs) fun y hy=>Ok.lP (Ok.cl (bZ _ h3.2.2 _ (by simp)) fun x4 h4=>?_)
  have h20:x4.1=20∨x4.1=21:=by simpa using h4.1
  refine Ok.gd ⟨by omega,by omega⟩ (Ok.lP (Ok.ret ⟨⟨?_,?_,fun z hz=>hy.1 z ?_,hn.off⟩,h4.2⟩))
  ·show 1≤(List.take x4.1.toNat (List.drop 0 y)).length
   rw[List.drop_zero,List.length_take];omega
  ·show(List.take x4.1.toNat (List.drop 0 y)).length≤60
   rw[List.drop_zero,List.length_take];omega
  ·have hz:z∈List.take x4.1.toNat (List.drop 0 y):=hz
   rw[List.drop_zero] at hz
   exact List.mem_of_mem_take hz
 ·exact Ok.ret ⟨hn,h3.2.2⟩
theorem um (c:Cur) (h:bt c) {n:Network} (hn:NetW n):Ok (fun r=>r.1.size≤10∧bt r.2) (lp G.real TE.real c n):=by
 have pl:=mT n
 have hl:=hn.len
 have hs:=hn.some_
 unfold lp
 rw[xU (by omega),ah]
 refine Ok.cl (eb c h 9) fun x2 h2=>Ok.br (fun _=>?_) (fun _=>?_)
 ·exact Ok.cl (km _ h2) fun x3 h3=>Ok.ret h3
 ·simp only[dP,fz]
  have hp:0<(plc n).length:=by
   obtain⟨z,hz⟩:∃z,z∈n.Legs:=⟨n.Legs[0],List.getElem_mem _⟩
   exact List.length_pos_of_mem ((k9 n z.From).2 ⟨z,hz,.inl rfl⟩)
  refine Ok.cl (aK _ h2 _) fun x4 h4=>?_
  have b4:=h4.2.1 (by omega)
  refine Ok.gd ⟨h4.1,b4⟩ (Ok.gti h4.1 b4 fun x5 h5=>Ok.ret ⟨?_,h4.2.2⟩)
  obtain⟨z,hz,hz2⟩:=(k9 n x5).1 h5
  rcases hz2 with rfl|rfl
  ·exact(hn.legs z hz).from_
  ·exact(hn.legs z hz).to_
end Go.Vs
namespace Go.Vs
open Go.IntWalk
theorem Ok.any {α β:Type} {Q:α→Prop} {m:Option β} {k:β→Option α} (h:∃x,m=some x) (hk:∀r,Ok Q (k r)):Ok Q (Vs.cl m k):=by
 obtain⟨x,rfl⟩:=h
 rw[ah];exact hk x
theorem sU {n:Network} (hn:n.Legs.length≤1048576) (l a:Int):∀(m:Nat) (v:Int),∃o,ch G.real TE.real n l a m v=some o
 |0,v=>⟨_,by rw[ch]⟩
 |m+1,v=>by
  obtain⟨o,ho⟩:=sU hn l a m (G.real.wrap .i64 (G.real.add v 1))
  rw[ch,xo hn,ah]
  cases hr:runsB n l v with
  |false=>rw[mM];exact⟨o,ho⟩
  |true=>
   obtain⟨r1,r2,_⟩:=gk hn hr
   obtain⟨z,hz,_⟩:=xh r1 r2
   unfold cA
   rw[cK,af r1,d9,ay hz,ah]
   generalize G.real.le a _=b
   cases b with
   |true=>exact⟨_,rfl⟩
   |false=>exact⟨o,ho⟩
theorem Be {n:Network} (hn:n.Legs.length≤1048576) (l a:Int):∃d,iD G.real TE.real n l a=some d:=by
 obtain⟨o,ho⟩:=sU hn l a (dn 0 60) 0
 unfold iD
 rw[ho,ah]
 cases o with
 |ret d=>exact⟨d,rfl⟩
 |out u=>exact⟨_,rfl⟩
theorem vm (c:Cur) (h:bt c) {n:Network} (hn:NetW n):Ok (fun r=>bt r.2) (i7 G.real TE.real c n):=by
 have hl:=hn.len
 unfold i7
 refine Ok.cl (aK c h _) fun x1 h1=>Ok.cl (aK _ h1.2.2 10) fun x2 h2=>Ok.any (Be (by omega) _ _) fun x3=>?_
 refine Ok.br (fun _=>Ok.cl (eb _ h2.2.2 4) fun x4 h4=>Ok.br (fun _=>Ok.ret h4) (fun _=>Ok.ret h4)) (fun _=>Ok.ret h2.2.2)
end Go.Vs
namespace Go.Vs
open Go.IntWalk
theorem tT {n:Network} (ht:n.tot≤1048576) (t:Trip):gc G.real TE.real n t=some (if ik n t=true then stN n t.Leg t.Day else-1):=by
 unfold gc
 rw[sX ht,ah]
 cases hb:ik n t with
 |false=>rfl
 |true=>
  have h:=hb
  unfold ik at h
  rw[Bool.and_eq_true] at h
  obtain⟨r1,r2,r3,r4⟩:=gk (li ht) h.2
  rw[cK,show cA G.real TE.real n t=some (stN n t.Leg t.Day) from rg (fu ht h.1) r1 r2 r3 r4];rfl
theorem xK {n:Network} (ht:n.tot≤1048576) (t:Trip):iV G.real TE.real n t=some (if ik n t=true then enN n t.Leg t.Day else-1):=by
 unfold iV
 rw[sX ht,ah]
 cases hb:ik n t with
 |false=>rfl
 |true=>
  have h:=hb
  unfold ik at h
  rw[Bool.and_eq_true] at h
  obtain⟨r1,r2,r3,r4⟩:=gk (li ht) h.2
  rw[cK,show fW G.real TE.real n t=some (enN n t.Leg t.Day) from zJ (fu ht h.1) r1 r2 r3 r4];rfl
theorem uU (c:Cur) (h:bt c) {n:Network} (hn:NetW n):Ok (fun r=>bt r.2) (iW G.real TE.real c n):=by
 have ht:=sF hn
 unfold iW
 refine Ok.cl (aK c h 3) fun x1 h1=>Ok.cl (aK _ h1.2.2 120) fun x2 h2=>Ok.cl (aK _ h2.2.2 4) fun x3 h3=>Ok.cl (vm _ h3.2.2 hn) fun x4 h4=>?_
 refine Ok.br (fun _=>?_) (fun _=>Ok.br (fun _=>?_) (fun _=>Ok.br (fun _=>?_) (fun _=>?_)))
 ·exact Ok.cl (um _ h4 hn) fun x5 h5=>Ok.ret h5.2
 ·exact Ok.cl (um _ h4 hn) fun x5 h5=>Ok.ret h5.2
 ·exact Ok.any ⟨_,tT ht _⟩ fun x7=>Ok.lP (Ok.cl (bZ _ h4 _ (by simp)) fun x8 h8=>Ok.lP (Ok.ret h8.2))
 ·exact Ok.any ⟨_,xK ht _⟩ fun x7=>Ok.lP (Ok.cl (bZ _ h4 _ (by simp)) fun x8 h8=>Ok.lP (Ok.ret h8.2))
theorem qZ (c:Cur) (h:bt c) {n:Network} (hn:NetW n):Ok (fun r=>bt r.2) (ff G.real TE.real c n):=by
 unfold ff
 refine Ok.cl (uU c h hn) fun x1 h1=>Ok.cl (aK _ h1 9) fun x2 h2=>?_
 refine Ok.br (fun _=>?_) (fun _=>Ok.br (fun _=>?_) (fun _=>Ok.br (fun _=>?_) (fun _=>Ok.br (fun _=>?_) (fun _=>Ok.br (fun _=>?_) (fun _=>Ok.br (fun _=>?_) (fun _=>?_))))))
 ·exact Ok.lP (Ok.cl (bZ _ h2.2.2 _ (by simp)) fun x3 h3=>Ok.ret h3.2)
 ·exact Ok.cl (xV _ h2.2.2) fun x3 h3=>Ok.ret h3.2
 ·exact Ok.cl (aK _ h2.2.2 6) fun x3 h3=>Ok.ret h3.2.2
 ·exact Ok.lP (Ok.cl (nB _ h2.2.2 _ (by simp)) fun x3 h3=>Ok.ret h3.2)
 ·exact Ok.lP (Ok.cl (bZ _ h2.2.2 _ (by simp)) fun x3 h3=>Ok.ret h3.2)
 ·exact Ok.lP (Ok.cl (bZ _ h2.2.2 _ (by simp)) fun x3 h3=>Ok.ret h3.2)
 ·exact Ok.ret h2.2.2
theorem xT (c:Cur) (h:bt c):Ok (fun r=>NetW r.1∧bt r.2) (kx G.real TE.real c):=by
 unfold kx
 refine Ok.cl (eb c h 12) fun x1 h1=>Ok.br (fun _=>?_) (fun _=>?_)
 ·exact Ok.cl (ww _ h1) fun x2 h2=>Ok.ret h2
 ·exact Ok.cl (p9 _ h1 6 (by omega) (by omega)) fun x2 h2=>Ok.ret ⟨h2.1.1,h2.2⟩
theorem oZ (a:List Int) (h:a.length≤4096):Ok (fun r=>r.1.tot≤1048576) (cJ G.real TE.real a):=by
 unfold cJ fG
 refine Ok.cl (Ok.lP (Ok.cl (xT _ (xk a h)) fun x2 h2=>Ok.cl (qZ _ h2.2 h2.1) fun x3 h3=>Ok.ret (sF h2.1))) fun x1 h1=>Ok.ret h1
end Go.Vs
