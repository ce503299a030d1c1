/- Part of the proofs of this seat's laws: Dra. No condition. -/
import Derived.Test.YticpmdigfdpmfaaVf
import Derived.Test.YticpmdigfdpmfaaLaa
import Derived.Test.YticpmdigfdpmfaaLab
import Derived.Test.YticpmdigfdpmfaaNet
import Derived.Test.YticpmdigfdpmfaaFre
set_option linter.unusedVariables false
set_option linter.unusedSimpArgs false
set_option linter.unusedSectionVars false
namespace Go.Vs
open Go.IntWalk
theorem wQ {α:Type} {l:List α} {i:Int} (h0:0≤i) (h1:i<l.length):∃x,l[i.toNat]?=some x∧x∈l:=by
 have hlt:i.toNat<l.length:=by omega
 exact⟨l[i.toNat],by simp[hlt],List.getElem_mem hlt⟩
def Ok {α:Type} (Q:α→Prop) (o:Option α):Prop:=∃r,o=some r∧Q r
section
variable {α β:Type} {Q:α→Prop} {R:β→Prop}
theorem Ok.ret {r:α} (h:Q r):Ok Q (some r):=⟨r,rfl,h⟩
theorem Ok.cl {m:Option β} {k:β→Option α} (h:Ok R m) (hk:∀r,R r→Ok Q (k r)):Ok Q (cl m k):=by
 obtain⟨r,rfl,hr⟩:=h
 rw[ag];exact hk r hr
theorem Ok.lP {x:β} {k:β→Option α} (h:Ok Q (k x)):Ok Q (lP x k):=h
theorem Ok.gd {p:Prop} [Decidable p] {k:Option α} (hp:p) (h:Ok Q k):Ok Q (gd p k):=by rw[ah hp];exact h
theorem Ok.br {c:Bool} {a b:Option α} (h1:c=true→Ok Q a) (h2:c=false→Ok Q b):Ok Q (br c a b):=by
 cases c with
 |true=>exact h1 rfl
 |false=>exact h2 rfl
theorem Ok.gt {l:List β} {i:Nat} {k:β→Option α} {x:β} (hx:l[i]?=some x) (h:Ok Q (k x)):Ok Q (gt l i k):=by rw[ar hx];exact h
theorem Ok.gti {l:List β} {i:Int} {k:β→Option α} (h0:0≤i) (h1:i<l.length) (h:∀x∈l,Ok Q (k x)):Ok Q (Vs.gt l (G.real.nat i) k):=by
 obtain⟨x,hx,hm⟩:=wQ h0 h1
 exact Ok.gt hx (h x hm)
theorem Ok.mono {Q':α→Prop} {o:Option α} (h:Ok Q o) (hq:∀r,Q r→Q' r):Ok Q' o:=by
 obtain⟨r,h1,h2⟩:=h;exact⟨r,h1,hq r h2⟩
end
def bn (c:Cur):Prop:=0≤c.i∧c.b.length≤1000000
theorem nC (a:Int):0≤G.real.band .i64 a 255∧G.real.band .i64 a 255≤255:=by
 have h:(BitVec.ofInt 64 a&&& BitVec.ofInt 64 255).toNat≤255:=by
  rw[BitVec.toNat_and]
  exact Nat.le_trans Nat.and_le_right (by decide)
 have e:G.real.band .i64 a 255=(((BitVec.ofInt 64 a&&& BitVec.ofInt 64 255).toNat:Nat):Int):=w64 (n:=(((BitVec.ofInt 64 a&&& BitVec.ofInt 64 255).toNat:Nat):Int)) (by omega) (by omega)
 rw[e]
 omega
theorem jV (c:Cur) (h:bn c):Ok (fun r=>0≤r.1∧r.1≤255∧bn r.2) (fP G.real TE.real c):=by
 unfold fP
 refine Ok.br (fun hc=>?_) (fun _=>?_)
 ·have hc:c.i<c.b.length:=by simpa using hc
  obtain⟨z,hz,_⟩:=wQ h.1 hc
  refine Ok.gd h.1 (Ok.gt (x:=z) hz (Ok.ret ⟨(nC _).1,(nC _).2,?_,h.2⟩))
  have h2:=h.1
  have h3:=h.2
  show 0≤G.real.wrap .i64 (c.i+1)
  rw[w64 (by omega) (by omega)]
  omega
 ·exact Ok.ret ⟨(nC _).1,(nC _).2,h⟩
theorem aE (c:Cur) (h:bn c) (n:Int):Ok (fun r=>0≤r.1∧(0<n→r.1<n)∧bn r.2) (aC G.real TE.real c n):=by
 unfold aC
 refine Ok.br (fun hc=>?_) (fun hc=>Ok.br (fun _=>?_) (fun _=>?_))
 ·have hc:n≤0:=by simpa using hc
  exact Ok.ret ⟨Int.le_refl _,fun hn=>by omega,h⟩
 ·have hc:0<n:=by simpa using hc
  refine Ok.cl (jV c h) fun x hx=>Ok.gd (by omega) (Ok.ret ⟨?_,fun _=>?_,hx.2.2⟩)
  ·exact Int.tmod_nonneg _ hx.1
  ·exact Int.tmod_lt_of_pos _ hc
 ·have hc:0<n:=by simpa using hc
  refine Ok.cl (jV c h) fun x hx=>Ok.cl (jV _ hx.2.2) fun y hy=>Ok.cl (jV _ hy.2.2) fun z hz=>Ok.gd (by omega) (Ok.ret ⟨?_,fun _=>?_,hz.2.2⟩)
  ·refine Int.tmod_nonneg _ ?_
   obtain⟨x1,x2,_⟩:=hx
   obtain⟨y1,y2,_⟩:=hy
   obtain⟨z1,z2,_⟩:=hz
   simp only[bG,lK]
   rw[w64 (n:=x.1*65536) (by omega) (by omega),w64 (n:=y.1*256) (by omega) (by omega),w64 (n:=x.1*65536+y.1*256) (by omega) (by omega),w64 (by omega) (by omega)]
   omega
  ·exact Int.tmod_lt_of_pos _ hc
theorem dY (c:Cur) (h:bn c) (n:Int):Ok (fun r=>bn r.2) (db G.real TE.real c n):=by
 unfold db
 exact Ok.cl (aE c h n) fun x hx=>Ok.ret hx.2.2
theorem fL (c:Cur) (h:bn c) (l:List Int) (hl:l≠[]):Ok (fun r=>r.1∈l∧bn r.2) (eh G.real TE.real c l):=by
 unfold eh
 rw[show G.real.llen (TE.real.r_I64 l)=(l.length:Int) from by simp]
 have hp:0<l.length:=List.length_pos_iff.2 hl
 refine Ok.cl (aE c h _) fun x hx=>Ok.gd hx.1 ?_
 obtain⟨z,hz,hm⟩:=wQ hx.1 (hx.2.1 (by omega))
 exact Ok.gt hz (Ok.ret ⟨hm,hx.2.2⟩)
theorem sQ (c:Cur) (h:bn c) (l:List ByteArray) (hl:l≠[]):Ok (fun r=>r.1∈l∧bn r.2) (jW G.real TE.real c l):=by
 unfold jW
 rw[show G.real.llen (TE.real.r_S l)=(l.length:Int) from by simp]
 have hp:0<l.length:=List.length_pos_iff.2 hl
 refine Ok.cl (aE c h _) fun x hx=>Ok.gd hx.1 ?_
 obtain⟨z,hz,hm⟩:=wQ hx.1 (hx.2.1 (by omega))
 exact Ok.gt hz (Ok.ret ⟨hm,hx.2.2⟩)
def I64 (x:Int):Prop:= -9223372036854775808≤x∧x≤9223372036854775807
theorem xK (c:Cur) (h:bn c):Ok (fun r=>I64 r.1∧bn r.2) (lw G.real TE.real c):=by
 unfold lw
 refine Ok.lP (Ok.cl (fL c h _ (by simp)) fun x hx=>Ok.ret ⟨?_,hx.2⟩)
 have:=hx.1
 simp only[List.mem_cons,List.not_mem_nil,or_false] at this
 unfold I64
 omega
theorem kR (c:Cur) (h:bn c):Ok (fun r=>r.1.size≤10∧bn r.2) (fi G.real TE.real c):=by
 unfold fi
 refine Ok.lP (Ok.cl (sQ c h _ (by simp)) fun x hx=>Ok.ret ⟨?_,hx.2⟩)
 have:=hx.1
 show x.1.size≤10
 generalize x.1=y at this
 simp only[List.mem_cons,List.not_mem_nil,or_false] at this
 rcases this with rfl|rfl|rfl|rfl|rfl|rfl|rfl<;>decide
theorem w9 (a:List Int) (h:a.length≤4096):bn (nB G.real TE.real a):=⟨Int.le_refl _,by show a.length≤_;omega⟩
end Go.Vs
namespace Go.Vs
open Go.IntWalk
structure LegW (l:Leg):Prop where
 from_:l.From.size≤10
 to_:l.To.size≤10
 start: -10≤l.Start∧l.Start≤2000
 takes:0≤l.Takes∧l.Takes≤5000
structure NetW (n:Network):Prop where
 some_:1≤n.Legs.length
 len:n.Legs.length≤60
 legs:∀x∈n.Legs,LegW x
 off:n.Off.length≤10
theorem yC {l:Leg} (h:LegW l):Leg.tot l≤20:=by
 have h1:=h.from_
 have h2:=h.to_
 unfold Leg.tot;omega
theorem uz {α:Type} (f:α→Nat) (c:Nat):∀(l:List α),(∀y∈l,f y≤c)→v7 f l≤c*l.length
 |[],_=>Nat.zero_le _
 |y::l,h=>by
  have h1:=uz f c l fun z hz=>h z (List.mem_cons_of_mem _ hz)
  have h2:=h y (List.mem_cons_self ..)
  unfold v7 at h1 ⊢
  rw[List.map_cons,List.sum_cons,List.length_cons,Nat.mul_add]
  omega
theorem sV {n:Network} (h:NetW n):n.tot≤1048576:=by
 have h1:=uz (fun y=>Leg.tot y) 20 n.Legs fun y hy=>yC (h.legs y hy)
 have h2:=h.len
 have h3:=h.off
 unfold Network.tot
 omega
theorem mr (m:Nat) (b:List Int) (i h:Int) {x y:ByteArray} (hne:x≠y):cW G.real TE.real (m+1) b i h x y=some (b,i,h,x,y):=by
 rw[cW,kW,am,if_neg hne]
theorem Ag {y:ByteArray} (h:y∈[jy,jE,i4]):jz≠y:=by
 intro e
 subst e
 simp only[List.mem_cons,List.not_mem_nil,or_false] at h
 rcases h with h|h|h<;> ·have:=congrArg (fun b:ByteArray=>b.data) h;revert this;decide
theorem sh {y:ByteArray} (h:y∈[jy,jE,i4]):y.size≤10:=by
 simp only[List.mem_cons,List.not_mem_nil,or_false] at h
 rcases h with rfl|rfl|rfl<;>decide
theorem vV (m:Nat) (c:Cur) (h:bn c) {x y:ByteArray} (hx:x.size≤10) (hy:y.size≤10):
 Ok (fun r=>bn (Cur.mk r.1 r.2.1 r.2.2.1)∧r.2.2.2.1.size≤10∧r.2.2.2.2.size≤10) (cW G.real TE.real (m+2) c.b c.i c.h x y):=by
 by_cases he:x=y
 ·rw[cW]
  simp only[kW,am]
  rw[if_pos he]
  refine Ok.lP (Ok.cl (sQ c h _ (by simp)) fun z hz=>?_)
  by_cases h2:x=z.1
  ·rw[if_pos h2,mr m _ _ _ (Ag hz.1)]
   exact Ok.ret ⟨hz.2,(by decide:(jz).size≤10),sh hz.1⟩
  ·rw[if_neg h2,mr m _ _ _ h2]
   exact Ok.ret ⟨hz.2,hx,sh hz.1⟩
 ·rw[mr (m+1) _ _ _ he]
  exact Ok.ret ⟨h,hx,hy⟩
theorem yG (c:Cur) (h:bn c):Ok (fun r=>LegW r.1∧bn r.2∧0≤r.1.Start) (lV G.real TE.real c):=by
 unfold lV
 refine Ok.cl (kR c h) fun x1 h1=>Ok.cl (kR _ h1.2) fun x2 h2=>Ok.cl (aE _ h2.2 48) fun x3 h3=>Ok.cl (aE _ h3.2.2 40) fun x4 h4=>Ok.cl (aE _ h4.2.2 127) fun x5 h5=>Ok.cl (aE _ h5.2.2 60) fun x6 h6=>?_
 refine Ok.cl (vV 999999998 _ h6.2.2 h1.1 h2.1) fun y hy=>Ok.cl (dY _ hy.1 2) fun x8 h8=>?_
 have b3:=h3.2.1 (by omega)
 have b4:=h4.2.1 (by omega)
 have hs0:0≤G.real.wrap .i64 (G.real.mul 30 x3.1):=by
  have:=h3.1
  simp only[lK]
  rw[w64 (by omega) (by omega)];omega
 have hst: -10≤G.real.wrap .i64 (G.real.mul 30 x3.1)∧G.real.wrap .i64 (G.real.mul 30 x3.1)≤2000:=by
  have:=h3.1
  simp only[lK]
  rw[w64 (by omega) (by omega)];omega
 have htk:0≤G.real.wrap .i64 (G.real.mul 30 (G.real.wrap .i64 (G.real.add 1 x4.1)))∧G.real.wrap .i64 (G.real.mul 30 (G.real.wrap .i64 (G.real.add 1 x4.1)))≤5000:=by
  have:=h4.1
  simp only[lK,bG]
  rw[w64 (n:=1+x4.1) (by omega) (by omega),w64 (by omega) (by omega)];omega
 have hin:∀z:Int,z∈([1,1440,4320]:List Int)→0≤z∧z≤5000:=fun z hz=>by
  simp only[List.mem_cons,List.not_mem_nil,or_false] at hz;omega
 refine Ok.br (fun _=>?_) (fun _=>?_)
 ·refine Ok.cl (dY _ h8 9) fun x9 h9=>Ok.br (fun _=>?_) (fun _=>?_)
  ·refine Ok.lP (Ok.cl (fL _ h9 _ (by simp)) fun x10 h10=>Ok.ret ⟨⟨hy.2.1,hy.2.2,hst,hin _ h10.1⟩,h10.2,hs0⟩)
  ·exact Ok.ret ⟨⟨hy.2.1,hy.2.2,hst,htk⟩,h9,hs0⟩
 ·refine Ok.cl (dY _ h8 9) fun x9 h9=>Ok.br (fun _=>?_) (fun _=>?_)
  ·refine Ok.lP (Ok.cl (fL _ h9 _ (by simp)) fun x10 h10=>Ok.ret ⟨⟨hy.2.1,hy.2.2,hst,hin _ h10.1⟩,h10.2,hs0⟩)
  ·exact Ok.ret ⟨⟨hy.2.1,hy.2.2,hst,htk⟩,h9,hs0⟩
theorem iT (most:Int):∀(k fuel:Nat) (c:Cur) (w:List Leg),k<fuel→bn c→w.length+2*k≤100→(∀x∈w,LegW x)→
 Ok (fun r=>bn (Cur.mk r.1 r.2.1 r.2.2.1)∧(∀x∈r.2.2.2,LegW x)∧w.length+k≤r.2.2.2.length∧r.2.2.2.length≤w.length+2*k) (bM G.real TE.real most fuel c.b c.i c.h w (k:Int))
 |_,0,_,_,hf,_,_,_=>absurd hf (Nat.not_lt_zero _)
 |0,fuel+1,c,w,_,hc,hw,hl=>by
  rw[bM,df,am,if_neg (by omega)]
  exact Ok.ret ⟨hc,hl,Nat.le_refl _,Nat.le_refl _⟩
 |k+1,fuel+1,c,w,hf,hc,hw,hl=>by
  rw[bM]
  simp only[df,ir,gH,wD,am]
  rw[if_pos (show(0:Int)<((k+1:Nat):Int) by omega),w64 (n:=((k+1:Nat):Int)-1) (by omega) (by omega),show((k+1:Nat):Int)-1=(k:Int) by omega]
  refine Ok.cl (yG c hc) fun x3 h3=>Ok.lP (Ok.gd (by simp;omega) (Ok.lP (Ok.cl (dY _ h3.2.1 3) fun x4 h4=>?_)))
  have hl2:∀x∈w++[Leg.mk x3.1.From x3.1.To x3.1.Start x3.1.Takes x3.1.Days x3.1.Room],LegW x:=fun x hx=>by
   rcases List.mem_append.1 hx with hx|hx
   ·exact hl x hx
   ·rw[List.mem_singleton.1 hx];exact h3.1
  have hk2:(w++[Leg.mk x3.1.From x3.1.To x3.1.Start x3.1.Takes x3.1.Days x3.1.Room]).length=w.length+1:=by simp
  generalize w++[Leg.mk x3.1.From x3.1.To x3.1.Start x3.1.Takes x3.1.Days x3.1.Room]=u at hl2 hk2 ⊢
  have rest:∀c2:Cur,bn c2→Ok (fun r=>bn (Cur.mk r.1 r.2.1 r.2.2.1)∧(∀x∈r.2.2.2,LegW x)∧w.length+(k+1)≤r.2.2.2.length∧r.2.2.2.length≤w.length+2* (k+1)) (bM G.real TE.real most fuel c2.b c2.i c2.h u (k:Int)):=fun c2 h2=>
   (iT most k fuel c2 u (by omega) h2 (by omega) hl2).mono fun r hr=>⟨hr.1,hr.2.1,by omega,by omega⟩
  refine Ok.br (fun _=>?_) (fun _=>rest _ h4)
  split
  ·rw[w64 (by omega) (by omega)]
   refine Ok.gd (by omega) (Ok.gti (by omega) (by omega) fun x5 h5=>Ok.gd (by omega) (Ok.cl (aE _ h4 20) fun x6 h6=>Ok.lP (Ok.gd (by simp;omega) (Ok.lP ?_))))
   have b6:=h6.2.1 (by omega)
   have hnew:LegW (Leg.mk x5.To x5.From (G.real.rem (G.real.wrap .i64 (G.real.add x3.1.Start (G.real.wrap .i64 (G.real.mul 60 x6.1)))) 1440) x3.1.Takes x3.1.Days x3.1.Room):=by
    refine⟨(hl2 _ h5).to_,(hl2 _ h5).from_,?_,h3.1.takes⟩
    have s3:=h3.1.start
    have:=h6.1
    simp only[wM,bG,lK]
    rw[w64 (n:=60*x6.1) (by omega) (by omega),w64 (by omega) (by omega)]
    have q1:=Int.tmod_lt_of_pos (x3.1.Start+60*x6.1) (b:=1440) (by omega)
    have q2:=h3.2.2
    have q3:=Int.tmod_nonneg 1440 (show 0≤x3.1.Start+60*x6.1 by omega)
    omega
   refine(iT most k fuel x6.2 _ (by omega) h6.2.2 (by simp;omega) (fun x hx=>?_)).mono fun r hr=>⟨hr.1,hr.2.1,?_,?_⟩
   ·rcases List.mem_append.1 hx with hx|hx
    ·exact hl2 x hx
    ·rw[List.mem_singleton.1 hx];exact hnew
   ·have:=hr.2.2.1;simp at this;omega
   ·have:=hr.2.2.2;simp at this;omega
  ·exact rest _ h4
theorem wC (c:Cur) (h:bn c) (most:Int) (h1:1≤most) (h2:most≤10):Ok (fun r=>(NetW r.1∧r.1.Legs.length≤20∧r.1.Off.length≤2)∧bn r.2) (jH G.real TE.real c most):=by
 unfold jH
 refine Ok.cl (aE c h 9) fun x1 q1=>Ok.cl (aE _ q1.2.2 most) fun x2 q2=>?_
 have b2:=q2.2.1 (by omega)
 have e:G.real.wrap .i64 (G.real.add 1 x2.1)=(((1+x2.1).toNat:Nat):Int):=by
  have:=q2.1
  rw[bG,w64 (by omega) (by omega)];omega
 rw[e]
 refine Ok.cl (iT most (1+x2.1).toNat 1000000000 x2.2 [] (by omega) q2.2.2 (by simp;omega) (by simp)) fun y hy=>?_
 have q2a:=q2.1
 have l1:=hy.2.2.1
 have l2:=hy.2.2.2
 simp only[List.length_nil,Nat.zero_add] at l1 l2
 refine Ok.cl (dY _ hy.1 2) fun x7 h7=>Ok.br (fun _=>?_) (fun _=>?_)
 ·refine Ok.cl (aE _ h7 3) fun x8 h8=>Ok.cl (aE _ h8.2.2 4) fun x9 h9=>Ok.lP (Ok.ret ⟨⟨⟨?_,?_,hy.2.1,?_⟩,?_⟩,h9.2.2⟩)
  ·show 1≤y.2.2.2.length;omega
  ·show y.2.2.2.length≤60;omega
  ·show[x8.1,_].length≤10;simp
  ·exact⟨by show y.2.2.2.length≤20;omega,by show[x8.1,_].length≤2;simp⟩
 ·refine Ok.ret ⟨⟨⟨?_,?_,hy.2.1,?_⟩,?_⟩,h7⟩
  ·show 1≤y.2.2.2.length;omega
  ·show y.2.2.2.length≤60;omega
  ·show([]:List Int).length≤10;simp
  ·exact⟨by show y.2.2.2.length≤20;omega,Nat.zero_le _⟩
theorem jP (c:Cur) (h:bn c) {n:Network} (hn:NetW n):Ok (fun r=>r.1.size≤10∧bn r.2) (g7 G.real TE.real c n):=by
 have pl:=dB n
 have hl:=hn.len
 have hs:=hn.some_
 unfold g7
 rw[w6 (by omega),ag]
 refine Ok.cl (dY c h 9) fun x2 h2=>Ok.br (fun _=>?_) (fun _=>?_)
 ·exact Ok.cl (kR _ h2) fun x3 h3=>Ok.ret h3
 ·simp only[gH,gF]
  have hp:0<(plc n).length:=by
   obtain⟨z,hz⟩:∃z,z∈n.Legs:=⟨n.Legs[0],List.getElem_mem _⟩
   exact List.length_pos_of_mem ((dA n z.From).2 ⟨z,hz,.inl rfl⟩)
  refine Ok.cl (aE _ h2 _) fun x4 h4=>?_
  have b4:=h4.2.1 (by omega)
  refine Ok.gd ⟨h4.1,b4⟩ (Ok.gti h4.1 b4 fun x5 h5=>Ok.ret ⟨?_,h4.2.2⟩)
  obtain⟨z,hz,hz2⟩:=(dA n x5).1 h5
  rcases hz2 with rfl|rfl
  ·exact(hn.legs z hz).from_
  ·exact(hn.legs z hz).to_
theorem uF (c:Cur) (h:bn c):Ok (fun r=>I64 r.1∧bn r.2) (mC G.real TE.real c):=by
 unfold mC
 refine Ok.cl (dY c h 9) fun x1 h1=>Ok.br (fun _=>?_) (fun _=>?_)
 ·exact Ok.cl (xK _ h1) fun x2 h2=>Ok.ret h2
 ·refine Ok.cl (aE _ h1 200) fun x3 h3=>Ok.ret ⟨?_,h3.2.2⟩
  have:=h3.1
  have:=h3.2.1 (by omega)
  show I64 (G.real.wrap .i64 (G.real.mul 60 x3.1))
  rw[lK,w64 (by omega) (by omega)]
  unfold I64;omega
end Go.Vs
namespace Go.Vs
open Go.IntWalk
theorem Ok.any {α β:Type} {Q:α→Prop} {m:Option β} {k:β→Option α} (h:∃x,m=some x) (hk:∀r,Ok Q (k r)):Ok Q (Vs.cl m k):=by
 obtain⟨x,rfl⟩:=h
 rw[ag];exact hk x
theorem sd {n:Network} (hn:n.Legs.length≤1048576) (l a:Int):∀(m:Nat) (v:Int),∃o,cH G.real TE.real n l a m v=some o
 |0,v=>⟨_,by rw[cH]⟩
 |m+1,v=>by
  obtain⟨o,ho⟩:=sd hn l a m (G.real.wrap .i64 (G.real.add v 1))
  rw[cH,tR hn,ag]
  cases hr:runsB n l v with
  |false=>rw[oa];exact⟨o,ho⟩
  |true=>
   obtain⟨r1,r2,_⟩:=ee hn hr
   obtain⟨z,hz,_⟩:=wQ r1 r2
   unfold dL
   rw[fr,ah r1,cw,ar hz,ag]
   generalize G.real.le a _=b
   cases b with
   |true=>exact⟨_,rfl⟩
   |false=>exact⟨o,ho⟩
theorem Bc {n:Network} (hn:n.Legs.length≤1048576) (l a:Int):∃d,i8 G.real TE.real n l a=some d:=by
 obtain⟨o,ho⟩:=sd hn l a (ci 0 60) 0
 unfold i8
 rw[ho,ag]
 cases o with
 |ret d=>exact⟨d,rfl⟩
 |out u=>exact⟨_,rfl⟩
theorem vD (c:Cur) (h:bn c) {n:Network} (hn:NetW n):Ok (fun r=>bn r.2) (jw G.real TE.real c n):=by
 have hl:=hn.len
 unfold jw
 refine Ok.cl (aE c h _) fun x1 h1=>Ok.cl (aE _ h1.2.2 10) fun x2 h2=>Ok.any (Bc (by omega) _ _) fun x3=>?_
 refine Ok.br (fun _=>Ok.cl (dY _ h2.2.2 4) fun x4 h4=>Ok.br (fun _=>Ok.ret h4) (fun _=>Ok.ret h4)) (fun _=>Ok.ret h2.2.2)
end Go.Vs
namespace Go.Vs
open Go.IntWalk
theorem yl {l:List Booking} (h:l.length≤1048576):gp G.real TE.real l=some l:=by
 unfold gp
 rw[aZ,ah (by simp;omega)]
 rfl
theorem xH (z:Booking):∀(l:List Booking) (v:Int),0≤v→v+l.length≤4194304→0≤cX G.real TE.real z l v∧cX G.real TE.real z l v≤v+l.length
 |[],v,h0,_=>by rw[cX];exact⟨h0,by simp⟩
 |y::l,v,h0,h1=>by
  simp only[List.length_cons] at h1
  have ih:=xH z l (v+1) (by omega) (by omega)
  rw[cX,aZ,bG,w64 (by omega) (by omega)]
  generalize eu G.real TE.real _ _=b
  cases b with
  |true=>rw[fr];simp only[List.length_cons];omega
  |false=>rw[oa];simp only[List.length_cons];omega
theorem AX {l:List Booking} (h:l.length≤1000000) (z:Booking):∃r,lF G.real TE.real l z=some r∧r.length=l.length+1:=by
 have hv:=xH z l 0 (by omega) (by omega)
 unfold lF
 rw[aZ]
 generalize cX G.real TE.real z l 0=v at hv ⊢
 simp only[pE,iM,aZ,cw]
 rw[ah (by omega),yl (by simp;omega),ag,ah (by simp;omega),ah (by omega),ah (by simp;omega)]
 refine⟨_,rfl,?_⟩
 simp
 omega
theorem vi (a w:Int):∀(ls:List Trip) (l:List Booking),l.length+ls.length≤900000→∃r,cK G.real TE.real a w ls l=some r∧r.length=l.length+ls.length
 |[],l,_=>⟨l,by rw[cK],by simp⟩
 |t::ls,l,h=>by
  simp only[List.length_cons] at h
  obtain⟨r,r1,r2⟩:=AX (l:=l) (by omega) (Booking.mk a t w)
  obtain⟨q,q1,q2⟩:=vi a w ls r (by omega)
  refine⟨q,?_,by simp only[List.length_cons];omega⟩
  rw[cK,r1,ag];exact q1
theorem z8 {n:Network} (ht:n.tot≤1048576) {l:List Booking} (hl:l.length≤500000) (a w:Int) (ls:List Trip):∃r,hL G.real TE.real n l a w ls=some r∧r.1.length≤l.length+20:=by
 unfold hL
 rw[yl (by omega),ag,AE ht l (by omega),ag]
 cases bkB n l with
 |false=>exact⟨_,rfl,by simp⟩
 |true=>
  simp only[vz,df,am]
  rw[fr]
  split
  ·exact⟨_,rfl,by simp⟩
  ·obtain⟨r,r1,r2⟩:=vi a w ls l (by omega)
   rw[r1,ag,AE ht r (by omega),ag]
   cases bkB n r with
   |true=>exact⟨_,rfl,by show r.length≤_;omega⟩
   |false=>exact⟨_,rfl,by simp⟩
theorem lz {n:Network} (hn:NetW n):∀(k fuel:Nat) (c:Cur) (w:List Booking),k<fuel→bn c→w.length+20*k≤5000→
 Ok (fun r=>bn (Cur.mk r.1 r.2.1 r.2.2.1)∧r.2.2.2.length≤w.length+20*k) (dh G.real TE.real n fuel c.b c.i c.h w (k:Int))
 |_,0,_,_,hf,_,_=>absurd hf (Nat.not_lt_zero _)
 |0,fuel+1,c,w,_,hc,hw=>by
  rw[dh,df,am,if_neg (by omega)]
  exact Ok.ret ⟨hc,Nat.le_refl _⟩
 |k+1,fuel+1,c,w,hf,hc,hw=>by
  have ht:=sV hn
  rw[dh,df,am,if_pos (by omega),ir,w64 (n:=((k+1:Nat):Int)-1) (by omega) (by omega),show((k+1:Nat):Int)-1=(k:Int) by omega]
  refine Ok.cl (aE c hc 9000) fun x2 h2=>Ok.lP (Ok.cl (jP _ h2.2.2 hn) fun x3 h3=>Ok.cl (jP _ h3.2 hn) fun x4 h4=>Ok.cl (aE _ h4.2 100) fun x5 h5=>?_)
  obtain⟨r,r1,_,_⟩:=zD ht w (by omega) [] x3.1 x4.1 (G.real.wrap .i64 (G.real.mul 60 x5.1)) (G.real.wrap .i64 (G.real.add 1 x2.1))
  refine Ok.any ⟨r,r1⟩ fun x6=>Ok.cl (aE _ h5.2.2 12) fun x7 h7=>?_
  obtain⟨q,q1,q2⟩:=z8 ht (l:=w) (by omega) (G.real.wrap .i64 (G.real.add 1 x7.1)) (G.real.wrap .i64 (G.real.add 1 x2.1)) x6.1
  rw[q1,ag]
  exact(lz hn k fuel x7.2 q.1 (by omega) h7.2.2 (by omega)).mono fun r hr=>⟨hr.1,by have:=hr.2;omega⟩
theorem p8 {n:Network} (hn:NetW n) (c:Cur) (h:bn c) (m:Int) (h1:0<m) (h2:m≤10):Ok (fun r=>r.1.length≤1000∧bn r.2) (hG G.real TE.real c n m):=by
 unfold hG
 refine Ok.lP (Ok.cl (aE c h m) fun x1 q1=>?_)
 have b1:=q1.2.1 (by omega)
 have a1:=q1.1
 rw[show x1.1=((x1.1.toNat:Nat):Int) by omega]
 refine Ok.cl (lz hn x1.1.toNat 1000000000 x1.2 [] (by omega) q1.2.2 (by simp;omega)) fun y hy=>Ok.ret ⟨?_,hy.1⟩
 have:=hy.2
 show y.2.2.2.length≤1000
 simp at this
 omega
theorem ye {n:Network} (hn:NetW n) (c:Cur) (h:bn c):Ok (fun r=>r.1.length≤1001∧bn r.2) (lm G.real TE.real c n):=by
 unfold lm
 refine Ok.cl (p8 hn c h 6 (by omega) (by omega)) fun x1 h1=>?_
 simp only[gH,pA]
 refine Ok.br (fun _=>Ok.ret ⟨by show x1.1.length≤_;omega,h1.2⟩) (fun hne=>?_)
 have hpos:(0:Int)<x1.1.length:=by
  rw[gR,decide_eq_false_iff_not] at hne
  omega
 refine Ok.cl (aE _ h1.2 _) fun x2 h2=>Ok.cl (aE _ h2.2.2 9) fun x3 h3=>?_
 have b2:=h2.2.1 hpos
 have a2:=h2.1
 have hset:∀(x:Booking),(x1.1.set (G.real.nat x2.1) x).length≤1001:=fun x=>by rw[List.length_set];omega
 refine Ok.br (fun _=>?_) (fun _=>Ok.br (fun _=>?_) (fun _=>Ok.br (fun _=>?_) (fun _=>Ok.br (fun _=>?_) (fun _=>Ok.br (fun _=>?_) (fun _=>?_)))))
 ·exact Ok.lP (Ok.cl (fL _ h3.2.2 _ (by simp)) fun x4 h4=>Ok.gd ⟨a2,b2⟩ (Ok.gti a2 b2 fun x5 h5=>Ok.lP (Ok.ret ⟨hset _,h4.2⟩)))
 ·exact Ok.lP (Ok.cl (fL _ h3.2.2 _ (by simp)) fun x4 h4=>Ok.gd ⟨a2,b2⟩ (Ok.gti a2 b2 fun x5 h5=>Ok.lP (Ok.ret ⟨hset _,h4.2⟩)))
 ·exact Ok.gd ⟨a2,b2⟩ (Ok.gti a2 b2 fun x5 h5=>Ok.gd ⟨a2,b2⟩ (Ok.lP (Ok.ret ⟨hset _,h3.2.2⟩)))
 ·exact Ok.gd ⟨a2,b2⟩ (Ok.gti a2 b2 fun x5 h5=>Ok.lP (Ok.gd (by simp;omega) (Ok.lP (Ok.ret ⟨by show(x1.1++[_]).length≤1001;simp;omega,h3.2.2⟩))))
 ·exact Ok.lP (Ok.cl (fL _ h3.2.2 _ (by simp)) fun x4 h4=>Ok.gd ⟨a2,b2⟩ (Ok.gti a2 b2 fun x5 h5=>Ok.lP (Ok.ret ⟨hset _,h4.2⟩)))
 ·exact Ok.ret ⟨by show x1.1.length≤_;omega,h3.2.2⟩
theorem lC {n:Network} (hn:NetW n):∀(k fuel:Nat) (c:Cur) (w:List Trip),k<fuel→bn c→w.length+k≤5000→
 Ok (fun r=>bn (Cur.mk r.1 r.2.1 r.2.2.1)∧r.2.2.2.length≤w.length+k) (dg G.real TE.real n fuel c.b c.i c.h w (k:Int))
 |_,0,_,_,hf,_,_=>absurd hf (Nat.not_lt_zero _)
 |0,fuel+1,c,w,_,hc,hw=>by
  rw[dg,df,am,if_neg (by omega)]
  exact Ok.ret ⟨hc,Nat.le_refl _⟩
 |k+1,fuel+1,c,w,hf,hc,hw=>by
  rw[dg,df,am,if_pos (by omega),ir,w64 (n:=((k+1:Nat):Int)-1) (by omega) (by omega),show((k+1:Nat):Int)-1=(k:Int) by omega]
  refine Ok.cl (vD c hc hn) fun x2 h2=>Ok.lP (Ok.gd (by simp;omega) (Ok.lP ?_))
  exact(lC hn k fuel x2.2 _ (by omega) h2 (by simp;omega)).mono fun r hr=>⟨hr.1,by have:=hr.2;simp at this;omega⟩
theorem pX {n:Network} (hn:NetW n) (c:Cur) (h:bn c):Ok (fun r=>r.1.length≤1000∧bn r.2) (hJ G.real TE.real c n):=by
 unfold hJ
 refine Ok.lP (Ok.cl (aE c h 4) fun x1 q1=>?_)
 have b1:=q1.2.1 (by omega)
 have a1:=q1.1
 rw[show x1.1=((x1.1.toNat:Nat):Int) by omega]
 refine Ok.cl (lC hn x1.1.toNat 1000000000 x1.2 [] (by omega) q1.2.2 (by simp;omega)) fun y hy=>Ok.ret ⟨?_,hy.1⟩
 have:=hy.2
 show y.2.2.2.length≤1000
 simp at this
 omega
theorem nr (a:List Int) (h:a.length≤4096):Ok (fun r=>NetW r.1∧r.2.1.length≤1001∧r.2.2.1.length≤1000∧I64 r.2.2.2.2.2.1) (dD G.real TE.real a):=by
 unfold dD
 refine Ok.lP (Ok.cl (wC _ (w9 a h) 7 (by omega) (by omega)) fun x2 h2=>Ok.cl (p8 h2.1.1 _ h2.2 9 (by omega) (by omega)) fun x3 h3=>Ok.cl (dY _ h3.2 8) fun x4 h4=>Ok.br (fun _=>?_) (fun _=>?_))
 ·exact Ok.cl (ye h2.1.1 _ h4) fun x5 h5=>Ok.cl (pX h2.1.1 _ h5.2) fun x6 h6=>Ok.cl (jP _ h6.2 h2.1.1) fun x7 h7=>Ok.cl (jP _ h7.2 h2.1.1) fun x8 h8=>Ok.cl (uF _ h8.2) fun x9 h9=>Ok.lP (Ok.cl (fL _ h9.2 _ (by simp)) fun x10 h10=>Ok.ret ⟨h2.1.1,h5.1,h6.1,h9.1⟩)
 ·exact Ok.cl (pX h2.1.1 _ h4) fun x6 h6=>Ok.cl (jP _ h6.2 h2.1.1) fun x7 h7=>Ok.cl (jP _ h7.2 h2.1.1) fun x8 h8=>Ok.cl (uF _ h8.2) fun x9 h9=>Ok.lP (Ok.cl (fL _ h9.2 _ (by simp)) fun x10 h10=>Ok.ret ⟨h2.1.1,Nat.le_trans h3.1 (by decide),h6.1,h9.1⟩)
end Go.Vs
namespace Go.Vs
open Go.IntWalk
theorem Bl (a:List Int):p5 G.real TE.real a=decide (4096<a.length):=by
 have h:p5 G.real TE.real a=decide ((4096:Int)<(a.length:Int)):=by
  unfold p5
  simp only[zB,df]
 rw[h,decide_eq_decide]
 omega
end Go.Vs
