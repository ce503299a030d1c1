/- Part of the proofs of this seat's laws: Drb. No condition. -/
import Derived.Test.YticpmdigfdpmfaaGreatFre
import Derived.Test.YticpmdigfdpmfaaGreatLac
import Derived.Test.YticpmdigfdpmfaaGreatLab
import Derived.Test.YticpmdigfdpmfaaGreatDra
import Derived.Test.YticpmdigfdpmfaaGreatLaa
import Derived.Test.YticpmdigfdpmfaaGreatRoo
set_option linter.unusedVariables false
set_option linter.unusedSimpArgs false
set_option linter.unusedSectionVars false
namespace Go.Vs
open Go.IntWalk
end Go.Vs
namespace Go.Vs
open Go.IntWalk
theorem zQ {l:List Booking} (h:l.length≤1048576):iq G.real TE.real l=some l:=by
 unfold iq
 rw[aP,aj (by simp;omega)]
 rfl
theorem AY (z:Booking):∀(l:List Booking) (v:Int),0≤v→v+l.length≤4194304→0≤dv G.real TE.real z l v∧dv G.real TE.real z l v≤v+l.length
 |[],v,h0,_=>by rw[dv];exact⟨h0,by simp⟩
 |y::l,v,h0,h1=>by
  simp only[List.length_cons] at h1
  have ih:=AY z l (v+1) (by omega) (by omega)
  rw[dv,aP,bR,w64 (by omega) (by omega)]
  generalize fv G.real TE.real _ _=b
  cases b with
  |true=>rw[dK];simp only[List.length_cons];omega
  |false=>rw[mb];simp only[List.length_cons];omega
theorem EZ {l:List Booking} (h:l.length≤1000000) (z:Booking):∃r,np G.real TE.real l z=some r∧r.length=l.length+1:=by
 have hv:=AY z l 0 (by omega) (by omega)
 unfold np
 rw[aP]
 generalize dv G.real TE.real z l 0=v at hv ⊢
 simp only[rg,jP,aP,cw]
 rw[aj (by omega),zQ (by simp;omega),af,aj (by simp;omega),aj (by omega),aj (by simp;omega)]
 refine⟨_,rfl,?_⟩
 simp
 omega
theorem xn (a w:Int):∀(ls:List Trip) (l:List Booking),l.length+ls.length≤900000→∃r,dk G.real TE.real a w ls l=some r∧r.length=l.length+ls.length
 |[],l,_=>⟨l,by rw[dk],by simp⟩
 |t::ls,l,h=>by
  simp only[List.length_cons] at h
  obtain⟨r,r1,r2⟩:=EZ (l:=l) (by omega) (Booking.mk a t w)
  obtain⟨q,q1,q2⟩:=xn a w ls r (by omega)
  refine⟨q,?_,by simp only[List.length_cons];omega⟩
  rw[dk,r1,af];exact q1
theorem mG {n:Network} (hn:NetW n):∀(k fuel:Nat) (c:Cur) (w:List Trip),k<fuel→bp c→w.length+k≤5000→
 Ok (fun r=>bp (Cur.mk r.1 r.2.1 r.2.2.1)∧r.2.2.2.length≤w.length+k) (dN G.real TE.real n fuel c.b c.i c.h w (k:Int))
 |_,0,_,_,hf,_,_=>absurd hf (Nat.not_lt_zero _)
 |0,fuel+1,c,w,_,hc,hw=>by
  rw[dN,cP,ao,if_neg (by omega)]
  exact Ok.ret ⟨hc,Nat.le_refl _⟩
 |k+1,fuel+1,c,w,hf,hc,hw=>by
  rw[dN,cP,ao,if_pos (by omega),i5,w64 (n:=((k+1:Nat):Int)-1) (by omega) (by omega),show((k+1:Nat):Int)-1=(k:Int) by omega]
  refine Ok.cl (ym c hc hn) fun x2 h2=>Ok.lP (Ok.gd (by simp;omega) (Ok.lP ?_))
  exact(mG hn k fuel x2.2 _ (by omega) h2 (by simp;omega)).mono fun r hr=>⟨hr.1,by have:=hr.2;simp at this;omega⟩
theorem rE {n:Network} (hn:NetW n) (c:Cur) (h:bp c):Ok (fun r=>r.1.length≤1000∧bp r.2) (iZ G.real TE.real c n):=by
 unfold iZ
 refine Ok.lP (Ok.cl (aG c h 4) fun x1 q1=>?_)
 have b1:=q1.2.1 (by omega)
 have a1:=q1.1
 rw[show x1.1=((x1.1.toNat:Nat):Int) by omega]
 refine Ok.cl (mG hn x1.1.toNat 1000000000 x1.2 [] (by omega) q1.2.2 (by simp;omega)) fun y hy=>Ok.ret ⟨?_,hy.1⟩
 have:=hy.2
 show y.2.2.2.length≤1000
 simp at this
 omega
end Go.Vs
namespace Go.Vs
open Go.IntWalk
theorem iK (most:Nat):∀(k fuel:Nat) (v1:List Int) (v2 v3:Int) (w:List Leg) (r:(List Int)×Int×Int×List Leg),w.length+2*k≤100→aY G.real TE.real (most:Int) fuel v1 v2 v3 w (k:Int)=some r→r.2.2.2.length≤w.length+k+(most-w.length)/2
 |_,0,_,_,_,_,_,_,h=>by rw[aY] at h;cases h
 |0,fuel+1,v1,v2,v3,w,r,_,h=>by
  rw[aY,cP,ao,if_neg (by omega)] at h
  cases h
  show w.length≤_
  omega
 |k+1,fuel+1,v1,v2,v3,w,r,hw,h=>by
  rw[aY] at h
  simp only[cP,i5,iu,rT,ao] at h
  rw[if_pos (show(0:Int)<((k+1:Nat):Int) by omega),w64 (n:=((k+1:Nat):Int)-1) (by omega) (by omega),show((k+1:Nat):Int)-1=(k:Int) by omega] at h
  obtain⟨x3,_,h⟩:=ae h
  try dsimp only at h
  rw[aP] at h
  obtain⟨_,h⟩:=ak h
  rw[aP] at h
  obtain⟨x4,_,h⟩:=ae h
  try dsimp only at h
  have hk2:(w++[Leg.mk x3.1.From x3.1.To x3.1.Start x3.1.Takes x3.1.Days x3.1.Room]).length=w.length+1:=by simp
  generalize w++[Leg.mk x3.1.From x3.1.To x3.1.Start x3.1.Takes x3.1.Days x3.1.Room]=u at hk2 h
  have rest:∀{a b c},aY G.real TE.real (most:Int) fuel a b c u (k:Int)=some r→r.2.2.2.length≤w.length+(k+1)+(most-w.length)/2:=fun h=>by
   have:=iK most k fuel _ _ _ u r (by omega) h
   omega
  cases hx:x4.1 with
  |false=>rw[hx,mb] at h;exact rest h
  |true=>
   rw[hx,dK] at h
   by_cases hm:(u.length:Int)<(most:Int)
   ·rw[if_pos hm] at h
    obtain⟨_,h⟩:=ak h
    obtain⟨x5,_,h⟩:=aV h
    try dsimp only at h
    obtain⟨_,h⟩:=ak h
    obtain⟨x6,_,h⟩:=ae h
    try dsimp only at h
    rw[aP] at h
    obtain⟨_,h⟩:=ak h
    rw[aP] at h
    have:=iK most k fuel _ _ _ _ r (by simp;omega) h
    simp only[List.length_append,List.length_cons,List.length_nil] at this
    omega
   ·rw[if_neg hm] at h;exact rest h
theorem vX (c:Cur) (hc:bp c) {r:Network×Cur} (h:gB G.real TE.real c 7=some r):r.1.Legs.length≤10:=by
 unfold gB at h
 obtain⟨x1,h1,g1⟩:=ae h
 clear h
 try dsimp only at g1
 obtain⟨x2,h2,g2⟩:=ae g1
 clear g1
 try dsimp only at g2
 obtain⟨y1,hy,g3⟩:=ae g2
 clear g2
 try dsimp only at g3
 obtain⟨q1,e1,p1⟩:=aG c hc 9
 rw[e1] at h1
 have z1:q1=x1:=Option.some.inj h1
 subst z1
 obtain⟨q2,e2,p2⟩:=aG _ p1.2.2 7
 rw[show(Cur.mk q1.2.b q1.2.i q1.2.h)=q1.2 from rfl,e2] at h2
 have z2:q2=x2:=Option.some.inj h2
 subst z2
 have b2:=p2.2.1 (by omega)
 have a2:=p2.1
 rw[bR,w64 (by omega) (by omega),show 1+q2.1=(((1+q2.1).toNat:Nat):Int) by omega] at hy
 have hl:=iK 7 _ _ _ _ _ [] _ (by simp;omega) hy
 simp only[List.length_nil] at hl
 have hy2:y1.2.2.2.length≤10:=by omega
 obtain⟨x7,_,h⟩:=ae g3
 try dsimp only at h
 cases hx:x7.1 with
 |false=>rw[hx,mb] at h;cases h;exact hy2
 |true=>
  rw[hx,dK] at h
  obtain⟨x8,_,h⟩:=ae h
  try dsimp only at h
  obtain⟨x9,_,h⟩:=ae h
  try dsimp only at h
  rw[aP] at h
  cases h;exact hy2
theorem ww (c:Cur) (h:bp c):Ok (fun r=>(NetW r.1∧r.1.Legs.length≤10)∧bp r.2) (gB G.real TE.real c 7):=by
 obtain⟨r,r1,r2⟩:=yC c h 7 (by omega) (by omega)
 exact⟨r,r1,⟨r2.1.1,vX c h r1⟩,r2.2⟩
theorem C2 {n:Network} (ht:n.tot≤1048576) {l:List Booking} (hl:l.length≤500000) (a w:Int) (ls:List Trip):∃r,i8 G.real TE.real n l a w ls=some r∧r.1.length≤l.length+ls.length:=by
 unfold i8
 rw[zQ (by omega),af,C1 ht l (by omega),af]
 cases bkB n l with
 |false=>exact⟨_,rfl,by simp⟩
 |true=>
  simp only[lp,cP,ao]
  rw[dK]
  split
  ·exact⟨_,rfl,by simp⟩
  ·obtain⟨r,r1,r2⟩:=xn a w ls l (by omega)
   rw[r1,af,C1 ht r (by omega),af]
   cases bkB n r with
   |true=>exact⟨_,rfl,by show r.length≤_;omega⟩
   |false=>exact⟨_,rfl,by simp⟩
theorem oA {n:Network} (hn:NetW n) (hL:n.Legs.length≤10):∀(k fuel:Nat) (c:Cur) (w:List Booking),k<fuel→bp c→w.length+10*k≤5000→
 Ok (fun r=>bp (Cur.mk r.1 r.2.1 r.2.2.1)∧r.2.2.2.length≤w.length+10*k) (dL G.real TE.real n fuel c.b c.i c.h w (k:Int))
 |_,0,_,_,hf,_,_=>absurd hf (Nat.not_lt_zero _)
 |0,fuel+1,c,w,_,hc,hw=>by
  rw[dL,cP,ao,if_neg (by omega)]
  exact Ok.ret ⟨hc,Nat.le_refl _⟩
 |k+1,fuel+1,c,w,hf,hc,hw=>by
  have ht:=ug hn
  rw[dL,cP,ao,if_pos (by omega),i5,w64 (n:=((k+1:Nat):Int)-1) (by omega) (by omega),show((k+1:Nat):Int)-1=(k:Int) by omega]
  refine Ok.cl (aG c hc 9000) fun x2 h2=>Ok.lP (Ok.cl (kZ _ h2.2.2 hn) fun x3 h3=>Ok.cl (kZ _ h3.2 hn) fun x4 h4=>Ok.cl (aG _ h4.2 100) fun x5 h5=>?_)
  obtain⟨r,r1,_,_,r3,r4⟩:=zT ht w (by omega) [] x3.1 x4.1 (G.real.wrap .i64 (G.real.mul 60 x5.1)) (G.real.wrap .i64 (G.real.add 1 x2.1))
  have hrl:r.1.length≤10:=by
   cases hr2:r.2 with
   |false=>rw[r3 hr2];simp
   |true=>exact Nat.le_trans (r4 hr2).len hL
  rw[r1,af]
  refine Ok.cl (aG _ h5.2.2 12) fun x7 h7=>?_
  obtain⟨q,q1,q2⟩:=C2 ht (l:=w) (by omega) (G.real.wrap .i64 (G.real.add 1 x7.1)) (G.real.wrap .i64 (G.real.add 1 x2.1)) r.1
  rw[q1,af]
  exact(oA hn hL k fuel x7.2 q.1 (by omega) h7.2.2 (by omega)).mono fun r hr=>⟨hr.1,by have:=hr.2;omega⟩
theorem uk {n:Network} (hn:NetW n) (hL:n.Legs.length≤10) (c:Cur) (h:bp c) (m:Int) (h1:0<m) (h2:m≤9):Ok (fun r=>r.1.length≤80∧bp r.2) (i6 G.real TE.real c n m):=by
 unfold i6
 refine Ok.lP (Ok.cl (aG c h m) fun x1 q1=>?_)
 have b1:=q1.2.1 (by omega)
 have a1:=q1.1
 rw[show x1.1=((x1.1.toNat:Nat):Int) by omega]
 refine Ok.cl (oA hn hL x1.1.toNat 1000000000 x1.2 [] (by omega) q1.2.2 (by simp;omega)) fun y hy=>Ok.ret ⟨?_,hy.1⟩
 have:=hy.2
 show y.2.2.2.length≤80
 simp at this
 omega
theorem B5 {n:Network} (hn:NetW n) (hL:n.Legs.length≤10) (c:Cur) (h:bp c):Ok (fun r=>r.1.length≤81∧bp r.2) (no G.real TE.real c n):=by
 unfold no
 refine Ok.cl (uk hn hL c h 6 (by omega) (by omega)) fun x1 h1=>?_
 simp only[iu,rf]
 refine Ok.br (fun _=>Ok.ret ⟨by show x1.1.length≤_;omega,h1.2⟩) (fun hne=>?_)
 have hpos:(0:Int)<x1.1.length:=by
  rw[ib,decide_eq_false_iff_not] at hne
  omega
 refine Ok.cl (aG _ h1.2 _) fun x2 h2=>Ok.cl (aG _ h2.2.2 9) fun x3 h3=>?_
 have b2:=h2.2.1 hpos
 have a2:=h2.1
 have hset:∀(x:Booking),(x1.1.set (G.real.nat x2.1) x).length≤81:=fun x=>by rw[List.length_set];omega
 refine Ok.br (fun _=>?_) (fun _=>Ok.br (fun _=>?_) (fun _=>Ok.br (fun _=>?_) (fun _=>Ok.br (fun _=>?_) (fun _=>Ok.br (fun _=>?_) (fun _=>?_)))))
 ·exact Ok.lP (Ok.cl (gv _ h3.2.2 _ (by simp)) fun x4 h4=>Ok.gd ⟨a2,b2⟩ (Ok.gti a2 b2 fun x5 h5=>Ok.lP (Ok.ret ⟨hset _,h4.2⟩)))
 ·exact Ok.lP (Ok.cl (gv _ h3.2.2 _ (by simp)) fun x4 h4=>Ok.gd ⟨a2,b2⟩ (Ok.gti a2 b2 fun x5 h5=>Ok.lP (Ok.ret ⟨hset _,h4.2⟩)))
 ·exact Ok.gd ⟨a2,b2⟩ (Ok.gti a2 b2 fun x5 h5=>Ok.gd ⟨a2,b2⟩ (Ok.lP (Ok.ret ⟨hset _,h3.2.2⟩)))
 ·exact Ok.gd ⟨a2,b2⟩ (Ok.gti a2 b2 fun x5 h5=>Ok.lP (Ok.gd (by simp;omega) (Ok.lP (Ok.ret ⟨by show(x1.1++[_]).length≤81;simp;omega,h3.2.2⟩))))
 ·exact Ok.lP (Ok.cl (gv _ h3.2.2 _ (by simp)) fun x4 h4=>Ok.gd ⟨a2,b2⟩ (Ok.gti a2 b2 fun x5 h5=>Ok.lP (Ok.ret ⟨hset _,h4.2⟩)))
 ·exact Ok.ret ⟨by show x1.1.length≤_;omega,h3.2.2⟩
theorem wts {z:Int} (h:z∈([1,1000,9000,30000,59000,0]:List Int)):z≤59000:=by
 simp only[List.mem_cons,List.not_mem_nil,or_false] at h;omega
theorem qL (a:List Int) (h:a.length≤4096):Ok (fun r=>(NetW r.1∧r.1.Legs.length≤10)∧r.2.1.length≤81∧r.2.2.1.length≤1000∧r.2.2.2.2.2.2≤59000) (ew G.real TE.real a):=by
 unfold ew
 refine Ok.lP (Ok.cl (ww _ (Ab a h)) fun x2 h2=>Ok.cl (uk h2.1.1 h2.1.2 _ h2.2 9 (by omega) (by omega)) fun x3 h3=>Ok.cl (eR _ h3.2 8) fun x4 h4=>Ok.br (fun _=>?_) (fun _=>?_))
 ·exact Ok.cl (B5 h2.1.1 h2.1.2 _ h4) fun x5 h5=>Ok.cl (rE h2.1.1 _ h5.2) fun x6 h6=>Ok.cl (kZ _ h6.2 h2.1.1) fun x7 h7=>Ok.cl (kZ _ h7.2 h2.1.1) fun x8 h8=>Ok.cl (xf _ h8.2) fun x9 h9=>Ok.lP (Ok.cl (gv _ h9.2 _ (by simp)) fun x10 h10=>Ok.ret ⟨h2.1,h5.1,h6.1,wts h10.1⟩)
 ·exact Ok.cl (rE h2.1.1 _ h4) fun x6 h6=>Ok.cl (kZ _ h6.2 h2.1.1) fun x7 h7=>Ok.cl (kZ _ h7.2 h2.1.1) fun x8 h8=>Ok.cl (xf _ h8.2) fun x9 h9=>Ok.lP (Ok.cl (gv _ h9.2 _ (by simp)) fun x10 h10=>Ok.ret ⟨h2.1,Nat.le_trans h3.1 (by decide),h6.1,wts h10.1⟩)
end Go.Vs
