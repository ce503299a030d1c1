/- Part of the proofs of this seat's laws: Dra. No condition. -/
import Derived.Test.YtolplompnmammaaGreatDoorVf
import Derived.Test.YtolplompnmammaaGreatDoorLaa
import Derived.Test.YtolplompnmammaaGreatDoorLab
import Derived.Test.YtolplompnmammaaGreatDoorNet
import Derived.Test.YtolplompnmammaaGreatDoorWay2
set_option linter.unusedVariables false
set_option linter.unusedSimpArgs false
set_option linter.unusedSectionVars false
namespace Go.Vs
open Go.IntWalk
theorem Cc {α:Type} {l:List α} {i:Int} (h0:0≤i) (h1:i<l.length):∃x,l[i.toNat]?=some x∧x∈l:=by
 have hlt:i.toNat<l.length:=by omega
 exact⟨l[i.toNat],by simp[hlt],List.getElem_mem hlt⟩
def Ok {α:Type} (Q:α→Prop) (o:Option α):Prop:=∃r,o=some r∧Q r
section
variable {α β:Type} {Q:α→Prop} {R:β→Prop}
theorem Ok.ret {r:α} (h:Q r):Ok Q (some r):=⟨r,rfl,h⟩
theorem Ok.cl {m:Option β} {k:β→Option α} (h:Ok R m) (hk:∀r,R r→Ok Q (k r)):Ok Q (cl m k):=by
 obtain⟨r,rfl,hr⟩:=h
 rw[ag];exact hk r hr
theorem Ok.lP {x:β} {k:β→Option α} (h:Ok Q (k x)):Ok Q (lP x k):=h
theorem Ok.gd {p:Prop} [Decidable p] {k:Option α} (hp:p) (h:Ok Q k):Ok Q (gd p k):=by rw[ak hp];exact h
theorem Ok.br {c:Bool} {a b:Option α} (h1:c=true→Ok Q a) (h2:c=false→Ok Q b):Ok Q (br c a b):=by
 cases c with
 |true=>exact h1 rfl
 |false=>exact h2 rfl
theorem Ok.gt {l:List β} {i:Nat} {k:β→Option α} {x:β} (hx:l[i]?=some x) (h:Ok Q (k x)):Ok Q (gt l i k):=by rw[aw hx];exact h
theorem Ok.gti {l:List β} {i:Int} {k:β→Option α} (h0:0≤i) (h1:i<l.length) (h:∀x∈l,Ok Q (k x)):Ok Q (Vs.gt l (G.real.nat i) k):=by
 obtain⟨x,hx,hm⟩:=Cc h0 h1
 exact Ok.gt hx (h x hm)
theorem Ok.mono {Q':α→Prop} {o:Option α} (h:Ok Q o) (hq:∀r,Q r→Q' r):Ok Q' o:=by
 obtain⟨r,h1,h2⟩:=h;exact⟨r,h1,hq r h2⟩
end
def bf (c:Cur):Prop:=0≤c.i∧c.b.length≤1000000
theorem pK (a:Int):0≤G.real.band .i64 a 255∧G.real.band .i64 a 255≤255:=by
 have h:(BitVec.ofInt 64 a&&& BitVec.ofInt 64 255).toNat≤255:=by
  rw[BitVec.toNat_and]
  exact Nat.le_trans Nat.and_le_right (by decide)
 have e:G.real.band .i64 a 255=(((BitVec.ofInt 64 a&&& BitVec.ofInt 64 255).toNat:Nat):Int):=w64 (n:=(((BitVec.ofInt 64 a&&& BitVec.ofInt 64 255).toNat:Nat):Int)) (by omega) (by omega)
 rw[e]
 omega
theorem lD (c:Cur) (h:bf c):Ok (fun r=>0≤r.1∧r.1≤255∧bf r.2) (gV G.real TE.real c):=by
 unfold gV
 refine Ok.br (fun hc=>?_) (fun _=>?_)
 ·have hc:c.i<c.b.length:=by simpa using hc
  obtain⟨z,hz,_⟩:=Cc h.1 hc
  refine Ok.gd h.1 (Ok.gt (x:=z) hz (Ok.ret ⟨(pK _).1,(pK _).2,?_,h.2⟩))
  have h2:=h.1
  have h3:=h.2
  show 0≤G.real.wrap .i64 (c.i+1)
  rw[w64 (by omega) (by omega)]
  omega
 ·exact Ok.ret ⟨(pK _).1,(pK _).2,h⟩
theorem aF (c:Cur) (h:bf c) (n:Int):Ok (fun r=>0≤r.1∧(0<n→r.1<n)∧bf r.2) (aG G.real TE.real c n):=by
 unfold aG
 refine Ok.br (fun hc=>?_) (fun hc=>Ok.br (fun _=>?_) (fun _=>?_))
 ·have hc:n≤0:=by simpa using hc
  exact Ok.ret ⟨Int.le_refl _,fun hn=>by omega,h⟩
 ·have hc:0<n:=by simpa using hc
  refine Ok.cl (lD c h) fun x hx=>Ok.gd (by omega) (Ok.ret ⟨?_,fun _=>?_,hx.2.2⟩)
  ·exact Int.tmod_nonneg _ hx.1
  ·exact Int.tmod_lt_of_pos _ hc
 ·have hc:0<n:=by simpa using hc
  refine Ok.cl (lD c h) fun x hx=>Ok.cl (lD _ hx.2.2) fun y hy=>Ok.cl (lD _ hy.2.2) fun z hz=>Ok.gd (by omega) (Ok.ret ⟨?_,fun _=>?_,hz.2.2⟩)
  ·refine Int.tmod_nonneg _ ?_
   obtain⟨x1,x2,_⟩:=hx
   obtain⟨y1,y2,_⟩:=hy
   obtain⟨z1,z2,_⟩:=hz
   simp only[bB,nP]
   rw[w64 (n:=x.1*65536) (by omega) (by omega),w64 (n:=y.1*256) (by omega) (by omega),w64 (n:=x.1*65536+y.1*256) (by omega) (by omega),w64 (by omega) (by omega)]
   omega
  ·exact Int.tmod_lt_of_pos _ hc
theorem cI (c:Cur) (h:bf c) (n:Int):Ok (fun r=>bf r.2) (ct G.real TE.real c n):=by
 unfold ct
 exact Ok.cl (aF c h n) fun x hx=>Ok.ret hx.2.2
theorem f9 (c:Cur) (h:bf c) (l:List Int) (hl:l≠[]):Ok (fun r=>r.1∈l∧bf r.2) (eX G.real TE.real c l):=by
 unfold eX
 rw[show G.real.llen (TE.real.r_I64 l)=(l.length:Int) from by simp]
 have hp:0<l.length:=List.length_pos_iff.2 hl
 refine Ok.cl (aF c h _) fun x hx=>Ok.gd hx.1 ?_
 obtain⟨z,hz,hm⟩:=Cc hx.1 (hx.2.1 (by omega))
 exact Ok.gt hz (Ok.ret ⟨hm,hx.2.2⟩)
theorem qD (c:Cur) (h:bf c) (l:List ByteArray) (hl:l≠[]):Ok (fun r=>r.1∈l∧bf r.2) (jZ G.real TE.real c l):=by
 unfold jZ
 rw[show G.real.llen (TE.real.r_S l)=(l.length:Int) from by simp]
 have hp:0<l.length:=List.length_pos_iff.2 hl
 refine Ok.cl (aF c h _) fun x hx=>Ok.gd hx.1 ?_
 obtain⟨z,hz,hm⟩:=Cc hx.1 (hx.2.1 (by omega))
 exact Ok.gt hz (Ok.ret ⟨hm,hx.2.2⟩)
def I64 (x:Int):Prop:= -9223372036854775808≤x∧x≤9223372036854775807
theorem vY (c:Cur) (h:bf c):Ok (fun r=>I64 r.1∧bf r.2) (lH G.real TE.real c):=by
 unfold lH
 refine Ok.lP (Ok.cl (f9 c h _ (by simp)) fun x hx=>Ok.ret ⟨?_,hx.2⟩)
 have:=hx.1
 simp only[List.mem_cons,List.not_mem_nil,or_false] at this
 unfold I64
 omega
theorem mG (c:Cur) (h:bf c):Ok (fun r=>r.1.size≤10∧bf r.2) (gz G.real TE.real c):=by
 unfold gz
 refine Ok.lP (Ok.cl (qD c h _ (by simp)) fun x hx=>Ok.ret ⟨?_,hx.2⟩)
 have:=hx.1
 show x.1.size≤10
 generalize x.1=y at this
 simp only[List.mem_cons,List.not_mem_nil,or_false] at this
 rcases this with rfl|rfl|rfl|rfl|rfl|rfl|rfl<;>decide
theorem BW (a:List Int) (h:a.length≤4096):bf (pL G.real TE.real a):=⟨Int.le_refl _,by show a.length≤_;omega⟩
end Go.Vs
namespace Go.Vs
open Go.IntWalk
structure LegW (l:Leg):Prop where
 from_:l.From.size≤10
 to_:l.To.size≤10
 start: -10≤l.Start∧l.Start≤2000
 takes:0≤l.Takes∧l.Takes≤5000
structure NetW (n:Network):Prop where
 some_:1≤n.Legs.length
 len:n.Legs.length≤60
 legs:∀x∈n.Legs,LegW x
 off:n.Off.length≤10
theorem AI {l:Leg} (h:LegW l):Leg.tot l≤20:=by
 have h1:=h.from_
 have h2:=h.to_
 unfold Leg.tot;omega
theorem xU {α:Type} (f:α→Nat) (c:Nat):∀(l:List α),(∀y∈l,f y≤c)→rM f l≤c*l.length
 |[],_=>Nat.zero_le _
 |y::l,h=>by
  have h1:=xU f c l fun z hz=>h z (List.mem_cons_of_mem _ hz)
  have h2:=h y (List.mem_cons_self ..)
  unfold rM at h1 ⊢
  rw[List.map_cons,List.sum_cons,List.length_cons,Nat.mul_add]
  omega
theorem qZ {n:Network} (h:NetW n):n.tot≤1048576:=by
 have h1:=xU (fun y=>Leg.tot y) 20 n.Legs fun y hy=>AI (h.legs y hy)
 have h2:=h.len
 have h3:=h.off
 unfold Network.tot
 omega
theorem om (m:Nat) (b:List Int) (i h:Int) {x y:ByteArray} (hne:x≠y):dH G.real TE.real (m+1) b i h x y=some (b,i,h,x,y):=by
 rw[dH,fk,ao,if_neg hne]
theorem EM {y:ByteArray} (h:y∈[iG,k9,lp]):kY≠y:=by
 intro e
 subst e
 simp only[List.mem_cons,List.not_mem_nil,or_false] at h
 rcases h with h|h|h<;> ·have:=congrArg (fun b:ByteArray=>b.data) h;revert this;decide
theorem vB {y:ByteArray} (h:y∈[iG,k9,lp]):y.size≤10:=by
 simp only[List.mem_cons,List.not_mem_nil,or_false] at h
 rcases h with rfl|rfl|rfl<;>decide
theorem zd (m:Nat) (c:Cur) (h:bf c) {x y:ByteArray} (hx:x.size≤10) (hy:y.size≤10):
 Ok (fun r=>bf (Cur.mk r.1 r.2.1 r.2.2.1)∧r.2.2.2.1.size≤10∧r.2.2.2.2.size≤10) (dH G.real TE.real (m+2) c.b c.i c.h x y):=by
 by_cases he:x=y
 ·rw[dH]
  simp only[fk,ao]
  rw[if_pos he]
  refine Ok.lP (Ok.cl (qD c h _ (by simp)) fun z hz=>?_)
  by_cases h2:x=z.1
  ·rw[if_pos h2,om m _ _ _ (EM hz.1)]
   exact Ok.ret ⟨hz.2,(by decide:(kY).size≤10),vB hz.1⟩
  ·rw[if_neg h2,om m _ _ _ h2]
   exact Ok.ret ⟨hz.2,hx,vB hz.1⟩
 ·rw[om (m+1) _ _ _ he]
  exact Ok.ret ⟨h,hx,hy⟩
theorem AW (c:Cur) (h:bf c):Ok (fun r=>LegW r.1∧bf r.2∧0≤r.1.Start) (nw G.real TE.real c):=by
 unfold nw
 refine Ok.cl (mG c h) fun x1 h1=>Ok.cl (mG _ h1.2) fun x2 h2=>Ok.cl (aF _ h2.2 48) fun x3 h3=>Ok.cl (aF _ h3.2.2 40) fun x4 h4=>Ok.cl (aF _ h4.2.2 127) fun x5 h5=>Ok.cl (aF _ h5.2.2 60) fun x6 h6=>?_
 refine Ok.cl (zd 999999998 _ h6.2.2 h1.1 h2.1) fun y hy=>Ok.cl (cI _ hy.1 2) fun x8 h8=>?_
 have b3:=h3.2.1 (by omega)
 have b4:=h4.2.1 (by omega)
 have hs0:0≤G.real.wrap .i64 (G.real.mul 30 x3.1):=by
  have:=h3.1
  simp only[nP]
  rw[w64 (by omega) (by omega)];omega
 have hst: -10≤G.real.wrap .i64 (G.real.mul 30 x3.1)∧G.real.wrap .i64 (G.real.mul 30 x3.1)≤2000:=by
  have:=h3.1
  simp only[nP]
  rw[w64 (by omega) (by omega)];omega
 have htk:0≤G.real.wrap .i64 (G.real.mul 30 (G.real.wrap .i64 (G.real.add 1 x4.1)))∧G.real.wrap .i64 (G.real.mul 30 (G.real.wrap .i64 (G.real.add 1 x4.1)))≤5000:=by
  have:=h4.1
  simp only[nP,bB]
  rw[w64 (n:=1+x4.1) (by omega) (by omega),w64 (by omega) (by omega)];omega
 have hin:∀z:Int,z∈([1,1440,4320]:List Int)→0≤z∧z≤5000:=fun z hz=>by
  simp only[List.mem_cons,List.not_mem_nil,or_false] at hz;omega
 refine Ok.br (fun _=>?_) (fun _=>?_)
 ·refine Ok.cl (cI _ h8 9) fun x9 h9=>Ok.br (fun _=>?_) (fun _=>?_)
  ·refine Ok.lP (Ok.cl (f9 _ h9 _ (by simp)) fun x10 h10=>Ok.ret ⟨⟨hy.2.1,hy.2.2,hst,hin _ h10.1⟩,h10.2,hs0⟩)
  ·exact Ok.ret ⟨⟨hy.2.1,hy.2.2,hst,htk⟩,h9,hs0⟩
 ·refine Ok.cl (cI _ h8 9) fun x9 h9=>Ok.br (fun _=>?_) (fun _=>?_)
  ·refine Ok.lP (Ok.cl (f9 _ h9 _ (by simp)) fun x10 h10=>Ok.ret ⟨⟨hy.2.1,hy.2.2,hst,hin _ h10.1⟩,h10.2,hs0⟩)
  ·exact Ok.ret ⟨⟨hy.2.1,hy.2.2,hst,htk⟩,h9,hs0⟩
theorem jW (most:Int):∀(k fuel:Nat) (c:Cur) (w:List Leg),k<fuel→bf c→w.length+2*k≤100→(∀x∈w,LegW x)→
 Ok (fun r=>bf (Cur.mk r.1 r.2.1 r.2.2.1)∧(∀x∈r.2.2.2,LegW x)∧w.length+k≤r.2.2.2.length∧r.2.2.2.length≤w.length+2*k) (cF G.real TE.real most fuel c.b c.i c.h w (k:Int))
 |_,0,_,_,hf,_,_,_=>absurd hf (Nat.not_lt_zero _)
 |0,fuel+1,c,w,_,hc,hw,hl=>by
  rw[cF,eh,ao,if_neg (by omega)]
  exact Ok.ret ⟨hc,hl,Nat.le_refl _,Nat.le_refl _⟩
 |k+1,fuel+1,c,w,hf,hc,hw,hl=>by
  rw[cF]
  simp only[eh,lT,eG,zw,ao]
  rw[if_pos (show(0:Int)<((k+1:Nat):Int) by omega),w64 (n:=((k+1:Nat):Int)-1) (by omega) (by omega),show((k+1:Nat):Int)-1=(k:Int) by omega]
  refine Ok.cl (AW c hc) fun x3 h3=>Ok.lP (Ok.gd (by simp;omega) (Ok.lP (Ok.cl (cI _ h3.2.1 3) fun x4 h4=>?_)))
  have hl2:∀x∈w++[Leg.mk x3.1.From x3.1.To x3.1.Start x3.1.Takes x3.1.Days x3.1.Room],LegW x:=fun x hx=>by
   rcases List.mem_append.1 hx with hx|hx
   ·exact hl x hx
   ·rw[List.mem_singleton.1 hx];exact h3.1
  have hk2:(w++[Leg.mk x3.1.From x3.1.To x3.1.Start x3.1.Takes x3.1.Days x3.1.Room]).length=w.length+1:=by simp
  generalize w++[Leg.mk x3.1.From x3.1.To x3.1.Start x3.1.Takes x3.1.Days x3.1.Room]=u at hl2 hk2 ⊢
  have rest:∀c2:Cur,bf c2→Ok (fun r=>bf (Cur.mk r.1 r.2.1 r.2.2.1)∧(∀x∈r.2.2.2,LegW x)∧w.length+(k+1)≤r.2.2.2.length∧r.2.2.2.length≤w.length+2* (k+1)) (cF G.real TE.real most fuel c2.b c2.i c2.h u (k:Int)):=fun c2 h2=>
   (jW most k fuel c2 u (by omega) h2 (by omega) hl2).mono fun r hr=>⟨hr.1,hr.2.1,by omega,by omega⟩
  refine Ok.br (fun _=>?_) (fun _=>rest _ h4)
  split
  ·rw[w64 (by omega) (by omega)]
   refine Ok.gd (by omega) (Ok.gti (by omega) (by omega) fun x5 h5=>Ok.gd (by omega) (Ok.cl (aF _ h4 20) fun x6 h6=>Ok.lP (Ok.gd (by simp;omega) (Ok.lP ?_))))
   have b6:=h6.2.1 (by omega)
   have hnew:LegW (Leg.mk x5.To x5.From (G.real.rem (G.real.wrap .i64 (G.real.add x3.1.Start (G.real.wrap .i64 (G.real.mul 60 x6.1)))) 1440) x3.1.Takes x3.1.Days x3.1.Room):=by
    refine⟨(hl2 _ h5).to_,(hl2 _ h5).from_,?_,h3.1.takes⟩
    have s3:=h3.1.start
    have:=h6.1
    simp only[AX,bB,nP]
    rw[w64 (n:=60*x6.1) (by omega) (by omega),w64 (by omega) (by omega)]
    have q1:=Int.tmod_lt_of_pos (x3.1.Start+60*x6.1) (b:=1440) (by omega)
    have q2:=h3.2.2
    have q3:=Int.tmod_nonneg 1440 (show 0≤x3.1.Start+60*x6.1 by omega)
    omega
   refine(jW most k fuel x6.2 _ (by omega) h6.2.2 (by simp;omega) (fun x hx=>?_)).mono fun r hr=>⟨hr.1,hr.2.1,?_,?_⟩
   ·rcases List.mem_append.1 hx with hx|hx
    ·exact hl2 x hx
    ·rw[List.mem_singleton.1 hx];exact hnew
   ·have:=hr.2.2.1;simp at this;omega
   ·have:=hr.2.2.2;simp at this;omega
  ·exact rest _ h4
theorem zY (c:Cur) (h:bf c) (most:Int) (h1:1≤most) (h2:most≤10):Ok (fun r=>(NetW r.1∧r.1.Legs.length≤20∧r.1.Off.length≤2)∧bf r.2) (kB G.real TE.real c most):=by
 unfold kB
 refine Ok.cl (aF c h 9) fun x1 q1=>Ok.cl (aF _ q1.2.2 most) fun x2 q2=>?_
 have b2:=q2.2.1 (by omega)
 have e:G.real.wrap .i64 (G.real.add 1 x2.1)=(((1+x2.1).toNat:Nat):Int):=by
  have:=q2.1
  rw[bB,w64 (by omega) (by omega)];omega
 rw[e]
 refine Ok.cl (jW most (1+x2.1).toNat 1000000000 x2.2 [] (by omega) q2.2.2 (by simp;omega) (by simp)) fun y hy=>?_
 have q2a:=q2.1
 have l1:=hy.2.2.1
 have l2:=hy.2.2.2
 simp only[List.length_nil,Nat.zero_add] at l1 l2
 refine Ok.cl (cI _ hy.1 2) fun x7 h7=>Ok.br (fun _=>?_) (fun _=>?_)
 ·refine Ok.cl (aF _ h7 3) fun x8 h8=>Ok.cl (aF _ h8.2.2 4) fun x9 h9=>Ok.lP (Ok.ret ⟨⟨⟨?_,?_,hy.2.1,?_⟩,?_⟩,h9.2.2⟩)
  ·show 1≤y.2.2.2.length;omega
  ·show y.2.2.2.length≤60;omega
  ·show[x8.1,_].length≤10;simp
  ·exact⟨by show y.2.2.2.length≤20;omega,by show[x8.1,_].length≤2;simp⟩
 ·refine Ok.ret ⟨⟨⟨?_,?_,hy.2.1,?_⟩,?_⟩,h7⟩
  ·show 1≤y.2.2.2.length;omega
  ·show y.2.2.2.length≤60;omega
  ·show([]:List Int).length≤10;simp
  ·exact⟨by show y.2.2.2.length≤20;omega,Nat.zero_le _⟩
theorem pP (c:Cur) (h:bf c) {n:Network} (hn:NetW n):Ok (fun r=>r.1.size≤10∧bf r.2) (kR G.real TE.real c n):=by
 have pl:=dp n
 have hl:=hn.len
 have hs:=hn.some_
 unfold kR
 rw[sP (by omega),ag]
 refine Ok.cl (cI c h 9) fun x2 h2=>Ok.br (fun _=>?_) (fun _=>?_)
 ·exact Ok.cl (mG _ h2) fun x3 h3=>Ok.ret h3
 ·simp only[eG,hJ]
  have hp:0<(plc n).length:=by
   obtain⟨z,hz⟩:∃z,z∈n.Legs:=⟨n.Legs[0],List.getElem_mem _⟩
   exact List.length_pos_of_mem ((e8 n z.From).2 ⟨z,hz,.inl rfl⟩)
  refine Ok.cl (aF _ h2 _) fun x4 h4=>?_
  have b4:=h4.2.1 (by omega)
  refine Ok.gd ⟨h4.1,b4⟩ (Ok.gti h4.1 b4 fun x5 h5=>Ok.ret ⟨?_,h4.2.2⟩)
  obtain⟨z,hz,hz2⟩:=(e8 n x5).1 h5
  rcases hz2 with rfl|rfl
  ·exact(hn.legs z hz).from_
  ·exact(hn.legs z hz).to_
theorem yP (c:Cur) (h:bf c):Ok (fun r=>I64 r.1∧bf r.2) (og G.real TE.real c):=by
 unfold og
 refine Ok.cl (cI c h 9) fun x1 h1=>Ok.br (fun _=>?_) (fun _=>?_)
 ·exact Ok.cl (vY _ h1) fun x2 h2=>Ok.ret h2
 ·refine Ok.cl (aF _ h1 200) fun x3 h3=>Ok.ret ⟨?_,h3.2.2⟩
  have:=h3.1
  have:=h3.2.1 (by omega)
  show I64 (G.real.wrap .i64 (G.real.mul 60 x3.1))
  rw[nP,w64 (by omega) (by omega)]
  unfold I64;omega
end Go.Vs
namespace Go.Vs
open Go.IntWalk
theorem Ok.any {α β:Type} {Q:α→Prop} {m:Option β} {k:β→Option α} (h:∃x,m=some x) (hk:∀r,Ok Q (k r)):Ok Q (Vs.cl m k):=by
 obtain⟨x,rfl⟩:=h
 rw[ag];exact hk x
theorem uM {n:Network} (hn:n.Legs.length≤1048576) (l a:Int):∀(m:Nat) (v:Int),∃o,cj G.real TE.real n l a m v=some o
 |0,v=>⟨_,by rw[cj]⟩
 |m+1,v=>by
  obtain⟨o,ho⟩:=uM hn l a m (G.real.wrap .i64 (G.real.add v 1))
  rw[cj,xH hn,ag]
  cases hr:runsB n l v with
  |false=>rw[jX];exact⟨o,ho⟩
  |true=>
   obtain⟨r1,r2,_⟩:=dM hn hr
   obtain⟨z,hz,_⟩:=Cc r1 r2
   unfold dd
   rw[cP,ak r1,bS,aw hz,ag]
   generalize G.real.le a _=b
   cases b with
   |true=>exact⟨_,rfl⟩
   |false=>exact⟨o,ho⟩
theorem Fu {n:Network} (hn:n.Legs.length≤1048576) (l a:Int):∃d,fA G.real TE.real n l a=some d:=by
 obtain⟨o,ho⟩:=uM hn l a (fh 0 60) 0
 unfold fA
 rw[ho,ag]
 cases o with
 |ret d=>exact⟨d,rfl⟩
 |out u=>exact⟨_,rfl⟩
theorem Aw (c:Cur) (h:bf c) {n:Network} (hn:NetW n):Ok (fun r=>bf r.2) (k7 G.real TE.real c n):=by
 have hl:=hn.len
 unfold k7
 refine Ok.cl (aF c h _) fun x1 h1=>Ok.cl (aF _ h1.2.2 10) fun x2 h2=>Ok.any (Fu (by omega) _ _) fun x3=>?_
 refine Ok.br (fun _=>Ok.cl (cI _ h2.2.2 4) fun x4 h4=>Ok.br (fun _=>Ok.ret h4) (fun _=>Ok.ret h4)) (fun _=>Ok.ret h2.2.2)
end Go.Vs
namespace Go.Vs
open Go.IntWalk
theorem qr {n:Network} (ht:n.tot≤1048576) (t:Trip):gu G.real TE.real n t=some (if fw n t=true then stN n t.Leg t.Day else-1):=by
 unfold gu
 rw[tQ ht,ag]
 cases hb:fw n t with
 |false=>rfl
 |true=>
  have h:=hb
  unfold fw at h
  rw[Bool.and_eq_true] at h
  obtain⟨r1,r2,r3,r4⟩:=dM (eo ht) h.2
  rw[cP,show dd G.real TE.real n t=some (stN n t.Leg t.Day) from lw (gZ ht h.1) r1 r2 r3 r4];rfl
theorem uE {n:Network} (ht:n.tot≤1048576) (t:Trip):jw G.real TE.real n t=some (if fw n t=true then enN n t.Leg t.Day else-1):=by
 unfold jw
 rw[tQ ht,ag]
 cases hb:fw n t with
 |false=>rfl
 |true=>
  have h:=hb
  unfold fw at h
  rw[Bool.and_eq_true] at h
  obtain⟨r1,r2,r3,r4⟩:=dM (eo ht) h.2
  rw[cP,show eE G.real TE.real n t=some (enN n t.Leg t.Day) from wm (gZ ht h.1) r1 r2 r3 r4];rfl
theorem pU {n:Network} (ht:n.tot≤1048576) (hb:netB n=true):∀(l:List Trip) (v:Int),∃o,dn G.real TE.real n l v=some o
 |[],v=>⟨_,by rw[dn]⟩
 |t::l,v=>by
  rw[dn,tQ ht,ag]
  cases hr:fw n t with
  |false=>exact⟨_,rfl⟩
  |true=>
   unfold fw at hr
   rw[Bool.and_eq_true] at hr
   obtain⟨r1,r2,r3,r4⟩:=dM (eo ht) hr.2
   rw[cP,show eE G.real TE.real n t=some (enN n t.Leg t.Day) from wm (gZ ht hb) r1 r2 r3 r4,ag]
   exact pU ht hb l _
theorem y6 {n:Network} (ht:n.tot≤1048576) (l:List Trip) (v:Int):∃e,jn G.real TE.real n l v=some e:=by
 unfold jn
 rw[wh ht,ag]
 cases hb:netB n with
 |false=>exact⟨_,rfl⟩
 |true=>
  obtain⟨o,ho⟩:=pU ht hb l v
  rw[cP,ho,ag]
  cases o with
  |ret d=>exact⟨_,rfl⟩
  |out u=>exact⟨_,rfl⟩
theorem zD (c:Cur) (h:bf c) {n:Network} (hn:NetW n):Ok (fun r=>bf r.2) (kw G.real TE.real c n):=by
 have ht:=qZ hn
 unfold kw
 refine Ok.cl (aF c h 3) fun x1 h1=>Ok.cl (aF _ h1.2.2 120) fun x2 h2=>Ok.cl (aF _ h2.2.2 4) fun x3 h3=>Ok.cl (Aw _ h3.2.2 hn) fun x4 h4=>?_
 refine Ok.br (fun _=>?_) (fun _=>Ok.br (fun _=>?_) (fun _=>Ok.br (fun _=>?_) (fun _=>?_)))
 ·exact Ok.cl (pP _ h4 hn) fun x5 h5=>Ok.ret h5.2
 ·exact Ok.cl (pP _ h4 hn) fun x5 h5=>Ok.ret h5.2
 ·exact Ok.any ⟨_,qr ht _⟩ fun x7=>Ok.lP (Ok.cl (f9 _ h4 _ (by simp)) fun x8 h8=>Ok.lP (Ok.ret h8.2))
 ·exact Ok.any ⟨_,uE ht _⟩ fun x7=>Ok.lP (Ok.cl (f9 _ h4 _ (by simp)) fun x8 h8=>Ok.lP (Ok.ret h8.2))
theorem uh (c:Cur) (h:bf c) {n:Network} (hn:NetW n):Ok (fun r=>bf r.2) (gR G.real TE.real c n):=by
 unfold gR
 refine Ok.cl (zD c h hn) fun x1 h1=>Ok.cl (aF _ h1 9) fun x2 h2=>?_
 refine Ok.br (fun _=>?_) (fun _=>Ok.br (fun _=>?_) (fun _=>Ok.br (fun _=>?_) (fun _=>Ok.br (fun _=>?_) (fun _=>Ok.br (fun _=>?_) (fun _=>Ok.br (fun _=>?_) (fun _=>?_))))))
 ·exact Ok.lP (Ok.cl (f9 _ h2.2.2 _ (by simp)) fun x3 h3=>Ok.ret h3.2)
 ·exact Ok.cl (vY _ h2.2.2) fun x3 h3=>Ok.ret h3.2
 ·exact Ok.cl (aF _ h2.2.2 6) fun x3 h3=>Ok.ret h3.2.2
 ·exact Ok.lP (Ok.cl (qD _ h2.2.2 _ (by simp)) fun x3 h3=>Ok.ret h3.2)
 ·exact Ok.lP (Ok.cl (f9 _ h2.2.2 _ (by simp)) fun x3 h3=>Ok.ret h3.2)
 ·exact Ok.lP (Ok.cl (f9 _ h2.2.2 _ (by simp)) fun x3 h3=>Ok.ret h3.2)
 ·exact Ok.ret h2.2.2
theorem oS {n:Network} (ht:n.tot≤1048576) (th:Int) (x:(List Trip)×Bool) (hx:x.1.length≤1000):∀(m k:Nat) (w:List Scan),k+m=x.1.length→w.length≤1+2*k→
 Ok (fun r=>r.length≤1+2*x.1.length) (dB G.real TE.real n th x m (k:Int) w)
 |0,k,w,hk,hw=>by rw[dB];exact Ok.ret (by omega)
 |m+1,k,w,hk,hw=>by
  rw[dB]
  refine Ok.gti (by omega) (by omega) fun x5 h5=>?_
  rw[qr ht,ag]
  refine Ok.lP (Ok.gd (by simp;omega) (Ok.lP ?_))
  rw[uE ht,ag]
  refine Ok.lP (Ok.gd (by simp;omega) (Ok.lP ?_))
  rw[bB,w64 (by omega) (by omega),show(k:Int)+1=((k+1:Nat):Int) by omega]
  exact oS ht th x hx m (k+1) _ (by omega) (by simp;omega)
theorem ky (y:List Scan) (hy:y.length≤5000):∀(m k:Nat) (c:Cur) (w:List Scan),bf c→k+m=y.length→w.length≤k→
 Ok (fun r=>bf (Cur.mk r.1 r.2.1 r.2.2.1)∧r.2.2.2.length≤y.length) (cT G.real TE.real y m (k:Int) c.b c.i c.h w)
 |0,k,c,w,hc,hk,hw=>by rw[cT];exact Ok.ret ⟨hc,by show w.length≤_;omega⟩
 |m+1,k,c,w,hc,hk,hw=>by
  rw[cT,bB,w64 (by omega) (by omega),show(k:Int)+1=((k+1:Nat):Int) by omega]
  refine Ok.cl (cI c hc 3) fun x1 h1=>Ok.br (fun _=>ky y hy m (k+1) x1.2 w h1 (by omega) (by omega)) (fun _=>?_)
  refine Ok.gti (by omega) (by omega) fun x2 h2=>Ok.lP (Ok.gd (by simp;omega) (Ok.lP ?_))
  exact ky y hy m (k+1) x1.2 _ h1 (by omega) (by simp;omega)
theorem kS (y:List Scan) (hy:y.length≤5000):∀(m k:Nat) (c:Cur) (w:List Scan),bf c→k+m=y.length→w.length≤k→
 Ok (fun r=>bf (Cur.mk r.1 r.2.1 r.2.2.1)∧r.2.2.2.length≤y.length) (cW G.real TE.real y m (k:Int) c.b c.i c.h w)
 |0,k,c,w,hc,hk,hw=>by rw[cW];exact Ok.ret ⟨hc,by show w.length≤_;omega⟩
 |m+1,k,c,w,hc,hk,hw=>by
  rw[cW,bB,w64 (by omega) (by omega),show(k:Int)+1=((k+1:Nat):Int) by omega]
  refine Ok.cl (cI c hc 3) fun x1 h1=>Ok.br (fun _=>kS y hy m (k+1) x1.2 w h1 (by omega) (by omega)) (fun _=>?_)
  refine Ok.gti (by omega) (by omega) fun x2 h2=>Ok.lP (Ok.gd (by simp;omega) (Ok.lP ?_))
  exact kS y hy m (k+1) x1.2 _ h1 (by omega) (by simp;omega)
theorem kX (y:List Scan) (hy:y.length≤5000):∀(m k:Nat) (c:Cur) (w:List Scan),bf c→k+m=y.length→w.length≤k→
 Ok (fun r=>bf (Cur.mk r.1 r.2.1 r.2.2.1)∧r.2.2.2.length≤y.length) (cU G.real TE.real y m (k:Int) c.b c.i c.h w)
 |0,k,c,w,hc,hk,hw=>by rw[cU];exact Ok.ret ⟨hc,by show w.length≤_;omega⟩
 |m+1,k,c,w,hc,hk,hw=>by
  rw[cU,bB,w64 (by omega) (by omega),show(k:Int)+1=((k+1:Nat):Int) by omega]
  refine Ok.cl (cI c hc 3) fun x1 h1=>Ok.br (fun _=>kX y hy m (k+1) x1.2 w h1 (by omega) (by omega)) (fun _=>?_)
  refine Ok.gti (by omega) (by omega) fun x2 h2=>Ok.lP (Ok.gd (by simp;omega) (Ok.lP ?_))
  exact kX y hy m (k+1) x1.2 _ h1 (by omega) (by simp;omega)
theorem rf (c:Cur) (h:bf c) {n:Network} (hn:NetW n) (th:Int):Ok (fun r=>r.1.length≤100∧bf r.2) (ic G.real TE.real c n th):=by
 have ht:=qZ hn
 unfold ic
 refine Ok.lP (Ok.cl (pP c h hn) fun x1 h1=>Ok.cl (pP _ h1.2 hn) fun x2 h2=>Ok.cl (aF _ h2.2 60) fun x3 h3=>?_)
 obtain⟨x4,e4,l4⟩:=fw_s ht x1.1 x2.1 (G.real.wrap .i64 (G.real.mul 60 x3.1))
 rw[e4,ag]
 refine Ok.lP (Ok.gd (by simp) (Ok.lP ?_))
 simp only[eG,pW,cM]
 have hc:ap 0 (x4.1.length:Int)=x4.1.length:=by unfold ap;omega
 refine Ok.gd (by omega) ?_
 rw[hc]
 refine Ok.cl (oS ht th x4 (by omega) x4.1.length 0 _ (by omega) (by simp)) fun y1 hy1=>Ok.cl (cI _ h3.2.2 2) fun x8 h8=>?_
 have kept:∀(z:List Scan),ap 0 (z.length:Int)=z.length:=fun z=>by unfold ap;omega
 refine Ok.br (fun _=>Ok.br (fun _=>?_) (fun _=>?_)) (fun _=>?_)
 ·refine Ok.any (y6 ht _ _) fun x9=>Ok.lP (Ok.gd (by simp;omega) (Ok.lP (Ok.lP ?_)))
  have hz:(y1++[Scan.mk th x9 4 x2.1 (Trip.mk 0 0)]).length≤90:=by simp;omega
  generalize y1++[Scan.mk th x9 4 x2.1 (Trip.mk 0 0)]=z at hz ⊢
  refine Ok.gd (by omega) ?_
  rw[kept]
  exact Ok.cl (ky z (by omega) z.length 0 x8.2 [] h8 (by omega) (by simp)) fun y2 hy2=>Ok.ret ⟨by show y2.2.2.2.length≤100;omega,hy2.1⟩
 ·refine Ok.lP (Ok.gd (by omega) ?_)
  rw[kept]
  exact Ok.cl (kS y1 (by omega) y1.length 0 x8.2 [] h8 (by omega) (by simp)) fun y2 hy2=>Ok.ret ⟨by show y2.2.2.2.length≤100;omega,hy2.1⟩
 ·refine Ok.lP (Ok.gd (by omega) ?_)
  rw[kept]
  exact Ok.cl (kX y1 (by omega) y1.length 0 x8.2 [] h8 (by omega) (by simp)) fun y2 hy2=>Ok.ret ⟨by show y2.2.2.2.length≤100;omega,hy2.1⟩
theorem mU {n:Network} (hn:NetW n):∀(k fuel:Nat) (c:Cur) (w:List Scan),k<fuel→bf c→w.length+k≤5000→
 Ok (fun r=>bf (Cur.mk r.1 r.2.1 r.2.2.1)∧r.2.2.2.length≤w.length+k) (dZ G.real TE.real n fuel c.b c.i c.h w (k:Int))
 |_,0,_,_,hf,_,_=>absurd hf (Nat.not_lt_zero _)
 |0,fuel+1,c,w,_,hc,hw=>by
  rw[dZ,eh,ao,if_neg (by omega)]
  exact Ok.ret ⟨hc,Nat.le_refl _⟩
 |k+1,fuel+1,c,w,hf,hc,hw=>by
  rw[dZ,eh,ao,if_pos (by omega),lT,w64 (n:=((k+1:Nat):Int)-1) (by omega) (by omega),show((k+1:Nat):Int)-1=(k:Int) by omega]
  refine Ok.cl (uh c hc hn) fun x4 h4=>Ok.lP (Ok.gd (by simp;omega) (Ok.lP ?_))
  exact(mU hn k fuel x4.2 _ (by omega) h4 (by simp;omega)).mono fun r hr=>⟨hr.1,by have:=hr.2;simp at this;omega⟩
theorem jS:∀(k fuel:Nat) (c:Cur) (w:List Scan),k<fuel→bf c→w.length+k≤5000→
 Ok (fun r=>bf (Cur.mk r.1 r.2.1 r.2.2.1)∧r.2.2.2.length≤w.length+k) (du G.real TE.real fuel c.b c.i c.h w (k:Int))
 |_,0,_,_,hf,_,_=>absurd hf (Nat.not_lt_zero _)
 |0,fuel+1,c,w,_,hc,hw=>by
  rw[du,eh,ao,if_neg (by omega)]
  exact Ok.ret ⟨hc,Nat.le_refl _⟩
 |k+1,fuel+1,c,w,hf,hc,hw=>by
  rw[du]
  simp only[eh,lT,eG,bS,xJ,bB,cM,ao]
  rw[if_pos (show(0:Int)<((k+1:Nat):Int) by omega),w64 (n:=((k+1:Nat):Int)-1) (by omega) (by omega),show((k+1:Nat):Int)-1=(k:Int) by omega]
  split
  ·refine Ok.cl (aF c hc _) fun x6 h6=>?_
   have b6:=h6.2.1 (by omega)
   have a6:=h6.1
   rw[w64 (n:=x6.1+1) (by omega) (by omega)]
   refine Ok.gd ⟨a6,b6⟩ (Ok.gti a6 b6 fun x7 h7=>Ok.lP (Ok.gd (by omega) (Ok.gd (by omega) ?_)))
   have hl1:(List.take (x6.1.toNat-Int.toNat 0) (List.drop (Int.toNat 0) w)).length=x6.1.toNat:=by simp;omega
   have hl2:(List.take ((w.length:Int).toNat-(x6.1+1).toNat) (List.drop (x6.1+1).toNat w)).length=w.length-(x6.1+1).toNat:=by simp
   generalize List.take (x6.1.toNat-Int.toNat 0) (List.drop (Int.toNat 0) w)=u1 at hl1 ⊢
   generalize List.take ((w.length:Int).toNat-(x6.1+1).toNat) (List.drop (x6.1+1).toNat w)=u2 at hl2 ⊢
   refine Ok.gd (by simp;omega) (Ok.lP (Ok.gd (by omega) (Ok.gd (by omega) (Ok.gd (by simp;omega) (Ok.lP (Ok.lP (Ok.gd (by simp;omega) (Ok.lP ?_))))))))
   have hlen:([]++u1++u2++[Scan.mk x7.Thing x7.At x7.Kind x7.Place (Trip.mk x7.Trip.Leg x7.Trip.Day)]).length=w.length:=by simp only[List.length_append,List.length_nil,List.length_cons,hl1,hl2];omega
   generalize []++u1++u2++[Scan.mk x7.Thing x7.At x7.Kind x7.Place (Trip.mk x7.Trip.Leg x7.Trip.Day)]=u at hlen ⊢
   refine Ok.cl (cI _ h6.2.2 2) fun x8 h8=>Ok.br (fun _=>Ok.lP (Ok.gd (by simp;omega) (Ok.lP ?_))) (fun _=>?_)
   ·exact(jS k fuel x8.2 _ (by omega) h8 (by simp;omega)).mono fun r hr=>⟨hr.1,by have:=hr.2;simp at this;omega⟩
   ·exact(jS k fuel x8.2 _ (by omega) h8 (by omega)).mono fun r hr=>⟨hr.1,by have:=hr.2;omega⟩
  ·exact Ok.ret ⟨hc,by show w.length≤_;omega⟩
theorem zK (c:Cur) (h:bf c) {n:Network} (hn:NetW n):Ok (fun r=>r.1.length≤1000∧bf r.2) (kT G.real TE.real c n):=by
 unfold kT
 refine Ok.cl (rf c h hn 1) fun x1 h1=>Ok.cl (rf _ h1.2 hn 2) fun x2 h2=>Ok.gd (by omega) (Ok.lP (Ok.cl (aF _ h2.2 4) fun x3 h3=>?_))
 have b3:=h3.2.1 (by omega)
 have a3:=h3.1
 rw[show x3.1=((x3.1.toNat:Nat):Int) by omega]
 refine Ok.cl (mU hn x3.1.toNat 1000000000 x3.2 _ (by omega) h3.2.2 (by simp;omega)) fun y1 hy1=>Ok.cl (aF _ hy1.1 4) fun x5 h5=>?_
 have q1:=hy1.2
 simp only[List.length_append] at q1
 have b5:=h5.2.1 (by omega)
 have a5:=h5.1
 rw[show x5.1=((x5.1.toNat:Nat):Int) by omega]
 refine Ok.cl (jS x5.1.toNat 1000000000 x5.2 _ (by omega) h5.2.2 (by omega)) fun y2 hy2=>Ok.ret ⟨?_,hy2.1⟩
 have:=hy2.2
 show y2.2.2.2.length≤1000
 omega
end Go.Vs
