/- Part of the proofs of this seat's laws: Rea. No condition. -/
import Derived.Test.YticpmdigfdpmfaaGreatWay2
import Derived.Test.YticpmdigfdpmfaaGreatWays
import Derived.Test.YticpmdigfdpmfaaGreatPk
import Derived.Test.YticpmdigfdpmfaaGreatDra
import Derived.Test.YticpmdigfdpmfaaGreatLac
import Derived.Test.YticpmdigfdpmfaaGreatLaa
set_option linter.unusedVariables false
set_option linter.unusedSimpArgs false
set_option linter.unusedSectionVars false
namespace Go.Vs
open Go.IntWalk
theorem sN {p:Int→Bool}:∀{m:Nat} {v d:Int},p d=true→v≤d→d<v+m→∃d0,fdD p m v=some d0∧d0≤d
 |0,v,d,_,h1,h2=>by omega
 |m+1,v,d,hp,h1,h2=>by
  unfold fdD
  cases hv:p v with
  |true=>exact⟨v,by simp,h1⟩
  |false=>
   have hne:v≠d:=fun e=>by rw[e,hp] at hv;cases hv
   obtain⟨d0,q1,q2⟩:=sN (m:=m) (v:=v+1) hp (by omega) (by omega)
   exact⟨d0,by simp[q1],q2⟩
def arL (n:Network) (s:ByteArray) (a:Int):List Int:=itr n (fN n) (ixN (plc n) s) (plc n).length (e8 n (ixN (plc n) s) a)
theorem wT {n:Network} (hb:netB n=true) {s p:ByteArray} {a:Int} (hs:s∈plc n) (ha:a≤100000) (hp:p∈plc n):eaB n s p a=lab (arL n s a) (ixN (plc n) p):=by
 unfold eaB
 rw[if_pos ⟨hb,hs,ha,hp⟩,uI hs ha (by omega)]
 rfl
theorem Ci {n:Network} (hn:NetOk n) {s:ByteArray} {a:Int} (hs:s∈plc n) (h0:0≤a):0≤lab (arL n s a) (ixN (plc n) s)∧lab (arL n s a) (ixN (plc n) s)≤a:=by
 have hok:FOk n (fN n):=⟨hn,(cT hn).ok⟩
 have h1:lab (e8 n (ixN (plc n) s) a) (ixN (plc n) s)=a:=by rw[fW (bM hs).1,if_pos rfl];omega
 have:=qk (st:=ixN (plc n) s) hok (plc n).length (i:=ixN (plc n) s) (dv n _ a) (by rw[h1];exact h0)
 rw[h1] at this
 exact this
theorem u6 {n:Network} (hn:NetOk n) {s:ByteArray} {a:Int} {t:Trip} (hr:runsB n t.Leg t.Day=true)
 (h0:0≤lab (arL n s a) (ixN (plc n) (lgOf n t.Leg).From)) (h1:rdy n (lab (arL n s a) (ixN (plc n) (lgOf n t.Leg).From)) (decide (ixN (plc n) (lgOf n t.Leg).From=ixN (plc n) s))≤stN n t.Leg t.Day):
 0≤lab (arL n s a) (ixN (plc n) (lgOf n t.Leg).To)∧lab (arL n s a) (ixN (plc n) (lgOf n t.Leg).To)≤enN n t.Leg t.Day:=by
 have hok:FOk n (fN n):=⟨hn,(cT hn).ok⟩
 have hlen:=hn.len
 obtain⟨r1,r2,r3,r4⟩:=cY (n:=n) (by omega) hr
 have hset:rnd n (fN n) (ixN (plc n) s) (arL n s a)=arL n s a:=yl hok (dv n _ a) (by omega)
 have hz:=cU r1 r2
 obtain⟨d0,e1,e2⟩:=sN (p:=pN n t.Leg (rdy n (lab (arL n s a) (ixN (plc n) (lgOf n t.Leg).From)) (decide (ixN (plc n) (lgOf n t.Leg).From=ixN (plc n) s)))) (m:=61) (v:=0) (d:=t.Day) (by
  unfold pN
  rw[hr,decide_eq_true h1];rfl) r3 (by omega)
 have hv:via n (fN n) (ixN (plc n) s) (arL n s a) (lgOf n t.Leg) ((t.Leg.toNat:Nat):Int)=some (enN n t.Leg d0):=by
  unfold via
  rw[show aI n (lgOf n t.Leg)=ixN (plc n) (lgOf n t.Leg).From from rfl,if_neg (by omega),show((t.Leg.toNat:Nat):Int)=t.Leg by omega]
  show(fN n t.Leg _).map _=_
  rw[show fN n t.Leg (rdy n (lab (arL n s a) (ixN (plc n) (lgOf n t.Leg).From)) (decide (ixN (plc n) (lgOf n t.Leg).From=ixN (plc n) s)))=some d0 from e1]
  rfl
 have hb:=(gb (st:=ixN (plc n) s) hok ((fq _ _).trans (dv n _ a)) (ixN (plc n) (lgOf n t.Leg).To)).2 _ _ _ hz rfl hv
 rw[show rnd n (fN n) (ixN (plc n) s) (itr n (fN n) (ixN (plc n) s) (plc n).length (e8 n (ixN (plc n) s) a))=arL n s a from hset] at hb
 unfold bt at hb
 have hm:enN n t.Leg d0≤enN n t.Leg t.Day:=by
  unfold enN stN;omega
 omega
theorem lB {n:Network} {p x:ByteArray} {a b:Int} (h:b≤a):∀{l:List Trip},gn n p x a l→gn n p x b l
 |[],hp=>hp
 |t::l,hp=>⟨hp.1,hp.2.1,by have:=hp.2.2.1;omega,hp.2.2.2⟩
theorem ba {n:Network} (hn:NetOk n) {p:ByteArray}:∀{l:List Trip} {x:ByteArray} {a:Int},gn n p x a l→∀t∈l,runsB n t.Leg t.Day=true∧a≤stN n t.Leg t.Day∧stN n t.Leg t.Day<enN n t.Leg t.Day∧0≤stN n t.Leg t.Day∧enN n t.Leg t.Day≤92159∧(lgOf n t.Leg).From∈plc n∧(lgOf n t.Leg).To∈plc n
 |[],_,_,_,t,h=>by cases h
 |u::l,x,a,hp,t,h=>by
  have hlen:=hn.len
  have hc:=hn.change
  obtain⟨r1,r2,r3,r4⟩:=cY (n:=n) (by omega) hp.1
  obtain⟨q1,q2,q3,q4⟩:=jg hn r1 r2 r3 r4
  rcases List.mem_cons.1 h with rfl|h
  ·exact⟨hp.1,hp.2.2.1,q3,by omega,q4,(cw n _).2 ⟨_,jT r1 r2,.inl rfl⟩,(cw n _).2 ⟨_,jT r1 r2,.inr rfl⟩⟩
  ·obtain⟨k1,k2,k3⟩:=ba hn hp.2.2.2 t h
   have:=hp.2.2.1
   exact⟨k1,by omega,k3⟩
theorem vY {n:Network} (hn:NetOk n) {s p:ByteArray} {a:Int}:∀{l:List Trip} {x:ByteArray} {b:Int},gn n p x b l→0≤lab (arL n s a) (ixN (plc n) x)→rdy n (lab (arL n s a) (ixN (plc n) x)) (decide (ixN (plc n) x=ixN (plc n) s))≤b→
 ∀t∈l,(0≤lab (arL n s a) (ixN (plc n) (lgOf n t.Leg).From)∧lab (arL n s a) (ixN (plc n) (lgOf n t.Leg).From)≤stN n t.Leg t.Day)∧0≤lab (arL n s a) (ixN (plc n) (lgOf n t.Leg).To)∧lab (arL n s a) (ixN (plc n) (lgOf n t.Leg).To)≤enN n t.Leg t.Day
 |[],_,_,_,_,_,t,h=>by cases h
 |u::l,x,b,hp,h0,h1,t,h=>by
  have hc:=hn.change
  obtain⟨p1,p2,p3,p4⟩:=hp
  subst p2
  have hle:lab (arL n s a) (ixN (plc n) (lgOf n u.Leg).From)≤rdy n (lab (arL n s a) (ixN (plc n) (lgOf n u.Leg).From)) (decide (ixN (plc n) (lgOf n u.Leg).From=ixN (plc n) s)):=by
   unfold rdy;split<;>omega
  have ht:=u6 hn p1 h0 (Int.le_trans h1 p3)
  rcases List.mem_cons.1 h with rfl|h
  ·exact⟨⟨h0,by omega⟩,ht⟩
  ·refine vY hn p4 ht.1 ?_ t h
   unfold rdy;split<;>omega
theorem ib {n:Network} (hn:NetOk n) (hb:netB n=true) {p x:ByteArray} {τ:Int} (hx:x∈plc n) (h0:0≤τ) (h1:τ≤100000) {l:List Trip} (hp:gn n p x τ l):
 ∀t∈l,(∀u,stN n t.Leg t.Day≤u→byB n ⟨x,τ⟩ ⟨(lgOf n t.Leg).From,u⟩=true)∧∀u,enN n t.Leg t.Day≤u→byB n ⟨x,τ⟩ ⟨(lgOf n t.Leg).To,u⟩=true:=by
 intro t ht
 have hs:=Ci hn hx h0
 have hl:=vY hn (s:=x) (a:=τ) hp hs.1 (by unfold rdy;rw[if_pos (by simp)];exact hs.2) t ht
 obtain⟨k1,k2,k3,k4,k5,k6,k7⟩:=ba hn hp t ht
 refine⟨fun u hu=>?_,fun u hu=>?_⟩
 ·unfold byB reB
  rw[decide_eq_true_eq]
  dsimp only
  split
  ·exact⟨h0,by omega⟩
  ·rw[wT hb hx h1 k6];omega
 ·unfold byB reB
  rw[decide_eq_true_eq]
  dsimp only
  split
  ·exact⟨h0,by omega⟩
  ·rw[wT hb hx h1 k7];omega
theorem j7 {n:Network} {p:ByteArray}:∀{l1:List Trip} {x:ByteArray} {a:Int} {l2:List Trip},gn n p x a (l1++l2)→∃y b,gn n y x a l1∧gn n p y b l2∧(l1=[]→y=x∧b=a)∧∀t l0,l1=l0++[t]→y=(lgOf n t.Leg).To∧b=enN n t.Leg t.Day+n.Change
 |[],x,a,l2,h=>⟨x,a,rfl,h,fun _=>⟨rfl,rfl⟩,fun t l0 e=>by simp at e⟩
 |u::l1,x,a,l2,h=>by
  obtain⟨y,b,h1,h2,h3,h4⟩:=j7 (l1:=l1) h.2.2.2
  refine⟨y,b,⟨h.1,h.2.1,h.2.2.1,h1⟩,h2,fun e=>by simp at e,fun t l0 e=>?_⟩
  cases l0 with
  |nil=>
   simp at e
   obtain⟨rfl,rfl⟩:=e
   exact h3 rfl
  |cons v l0=>
   simp at e
   exact h4 t l0 e.2
end Go.Vs
namespace Go.Vs
open Go.IntWalk
def heS (th when_:Int) (from_:ByteArray):Scan:=⟨th,when_,1,from_,⟨0,0⟩⟩
def ldS (n:Network) (th:Int) (t:Trip):Scan:=⟨th,stN n t.Leg t.Day,3,.empty,t⟩
def drS (n:Network) (th:Int) (t:Trip):Scan:=⟨th,enN n t.Leg t.Day,2,.empty,t⟩
def stl (n:Network) (th:Int):List Trip→List Scan
 |[]=>[]
 |t::l=>ldS n th t::drS n th t::stl n th l
theorem ua (n:Network) (th:Int):∀l,(stl n th l).length=2*l.length
 |[]=>rfl
 |t::l=>by have:=ua n th l;simp only[stl,List.length_cons];omega
theorem lv (n:Network) (th:Int):∀l m,stl n th (l++m)=stl n th l++stl n th m
 |[],m=>rfl
 |t::l,m=>by simp only[List.cons_append,stl,lv n th l m]
theorem dh {n:Network} {th:Int}:∀{l:List Trip} {s:Scan},s∈stl n th l→∃t∈l,s=ldS n th t∨s=drS n th t
 |[],s,h=>by cases h
 |t::l,s,h=>by
  rcases List.mem_cons.1 h with rfl|h
  ·exact⟨t,by simp,.inl rfl⟩
  ·rcases List.mem_cons.1 h with rfl|h
   ·exact⟨t,by simp,.inr rfl⟩
   ·obtain⟨u,u1,u2⟩:=dh h
    exact⟨u,by simp[u1],u2⟩
theorem vD {n:Network} (ht:n.tot≤1048576) (th:Int):∀(l:List Trip) (w:List Scan),(∀t∈l,dR n t=true)→w.length+2*l.length≤5000→eF G.real TE.real n th l w=some (w++stl n th l)
 |[],w,_,_=>by rw[eF];simp[stl]
 |t::l,w,h,hw=>by
  simp only[List.length_cons] at hw
  have h0:=h t (by simp)
  rw[eF,xF ht,CD ht,if_pos h0,if_pos h0,af]
  simp only[aU,af]
  rw[ah (by simp;omega),ah (by simp;omega),vD ht th l _ (fun u hu=>h u (by simp[hu])) (by simp;omega)]
  simp[stl,ldS,drS]
theorem DO {n:Network} (ht:n.tot≤1048576) (th when_:Int) (from_:ByteArray) {l:List Trip} (h:∀t∈l,dR n t=true) (hl:l.length≤1000):nv G.real TE.real n l th from_ when_=some (heS th when_ from_::stl n th l):=by
 unfold nv
 simp only[aU]
 rw[vD ht th l _ h (by simp;omega),af]
 rfl
def ug (b v:Int):Bool:=decide (G.real.band .i64 (G.real.shr .i64 b (v.tmod 8)) 1=1)
def nH (b:Int):Int→List Scan→List Scan
 |_,[]=>[]
 |v,z::l=>if ug b v=true then z::nH b (v+1) l else nH b (v+1) l
theorem nh (b:Int):∀(l:List Scan) (v:Int),(nH b v l).Sublist l
 |[],_=>List.Sublist.refl _
 |z::l,v=>by
  rw[nH];split
  ·exact(nh b l (v+1)).cons_cons z
  ·exact(nh b l (v+1)).cons z
theorem uu (b:Int):∀(l:List Scan) (v:Int) (w:List Scan),0<v→v+l.length≤100000→w.length+l.length≤100000→dH G.real TE.real b l v w=some (w++nH b v l)
 |[],v,w,_,_,_=>by rw[dH,nH];simp
 |z::l,v,w,h0,h1,h2=>by
  simp only[List.length_cons] at h1 h2
  have hr:=Int.tmod_nonneg 8 (show 0≤v by omega)
  rw[dH,dM,am,if_neg (by omega),vJ,ah hr,dM,bx,w64 (by omega) (by omega),nH]
  simp only[aU,f5]
  show br (ug b v) _ _=_
  cases ug b v with
  |true=>rw[c7,ah (by simp;omega),uu b l (v+1) _ (by omega) (by omega) (by simp;omega),if_pos rfl];simp
  |false=>rw[lJ,uu b l (v+1) _ (by omega) (by omega) (by omega),if_neg (by simp)]
theorem C4 (b:Int) (z:Scan) (l:List Scan) (h:l.length≤90000):oC G.real TE.real (z::l) b=some (z::nH b 1 l):=by
 unfold oC
 simp only[aU]
 rw[dH,dM,decide_eq_true rfl,c7]
 simp only[aU,f5]
 rw[ah (by simp),bx,w64 (by omega) (by omega),show(0:Int)+1=1 from rfl,uu b l 1 _ (by omega) (by omega) (by simp;omega),af]
 simp
theorem od {a b:Scan} (h:a.At<b.At∨(a.At=b.At∧a.Thing=b.Thing∧a.Kind<b.Kind)):cmS a b<0:=by
 rw[tX]
 rcases h with h|⟨h1,h2,h3⟩
 ·have:eh a.At b.At= -1:=by unfold eh;rw[if_pos h]
  unfold lex
  rw[if_neg (by show¬eh a.At b.At=0;omega)]
  show eh a.At b.At<0
  omega
 ·have q1:eh a.At b.At=0:=by unfold eh;rw[h1,if_neg (by omega),if_neg (by omega)]
  have q2:eh a.Thing b.Thing=0:=by unfold eh;rw[h2,if_neg (by omega),if_neg (by omega)]
  have q3:eh a.Kind b.Kind= -1:=by unfold eh;rw[if_pos h3]
  unfold lex
  rw[if_pos (show eh a.At b.At=0 from q1),if_pos (show eh a.Thing b.Thing=0 from q2),if_neg (by show¬eh a.Kind b.Kind=0;omega)]
  show eh a.Kind b.Kind<0
  omega
theorem HK {n:Network} (hb:netB n=true) {th:Int} (hth:1≤th∧th≤9999) {t:Trip} (hr:runsB n t.Leg t.Day=true) (h0:0≤stN n t.Leg t.Day) (h1:stN n t.Leg t.Day≤100000):scB n (ldS n th t)=true:=by
 have he:ByteArray.empty=str_k0:=rfl
 simp[scB,ldS,hb,hth.1,hth.2,h0,h1,hr,←he]
theorem Gh {n:Network} (hb:netB n=true) {th:Int} (hth:1≤th∧th≤9999) {t:Trip} (hr:runsB n t.Leg t.Day=true) (h0:0≤enN n t.Leg t.Day) (h1:enN n t.Leg t.Day≤100000):scB n (drS n th t)=true:=by
 have he:ByteArray.empty=str_k0:=rfl
 simp[scB,drS,hb,hth.1,hth.2,h0,h1,hr,←he]
theorem yg {n:Network} (hb:netB n=true) {th w:Int} (hth:1≤th∧th≤9999) {f:ByteArray} (hf:f∈plc n) (h0:0≤w) (h1:w≤100000):scB n (heS th w f)=true:=by
 simp[scB,heS,hb,hth.1,hth.2,h0,h1,hf]
theorem ff {n:Network} (hn:NetOk n) (hb:netB n=true) {th:Int} (hth:1≤th∧th≤9999) {p:ByteArray}:∀{l:List Trip} {x:ByteArray} {b:Int},gn n p x b l→
 StrS (stl n th l)∧∀s∈stl n th l,b≤s.At∧s.Thing=th∧(s.At=b→s.Kind=3)∧scB n s=true
 |[],_,_,_=>⟨List.Pairwise.nil,fun s h=>by cases h⟩
 |t::l,x,b,hp=>by
  obtain⟨i1,i2⟩:=ff hn hb hth hp.2.2.2
  have hc:=hn.change
  obtain⟨k1,k2,k3,k4,k5,_⟩:=ba hn hp t (by simp)
  refine⟨List.pairwise_cons.2 ⟨fun s hs=>?_,List.pairwise_cons.2 ⟨fun s hs=>?_,i1⟩⟩,fun s hs=>?_⟩
  ·rcases List.mem_cons.1 hs with rfl|hs
   ·exact od (.inl k3)
   ·have:=(i2 s hs).1
    exact od (.inl (by show stN n t.Leg t.Day<s.At;omega))
  ·obtain⟨j1,j2,j3,_⟩:=i2 s hs
   by_cases he:enN n t.Leg t.Day<s.At
   ·exact od (.inl he)
   ·exact od (.inr ⟨by show enN n t.Leg t.Day=s.At;omega,j2.symm,by rw[j3 (by omega)];show(2:Int)<3;omega⟩)
  ·rcases List.mem_cons.1 hs with rfl|hs
   ·exact⟨k2,rfl,fun _=>rfl,HK hb hth k1 k4 (by omega)⟩
   ·rcases List.mem_cons.1 hs with rfl|hs
    ·exact⟨by show b≤enN n t.Leg t.Day;omega,rfl,fun h=>by have:enN n t.Leg t.Day=b:=h;omega,Gh hb hth k1 (by omega) (by omega)⟩
    ·obtain⟨j1,j2,j3,j4⟩:=i2 s hs
     exact⟨by omega,j2,fun h=>by omega,j4⟩
end Go.Vs
namespace Go.Vs
open Go.IntWalk
theorem EQ (a:List Int) (hb:∀x∈a,0≤x∧x≤255) {i:Int} (hi:0≤i):∃v,ul G.real TE.real a i=some v∧0≤v∧v≤255:=by
 have:Ok (fun v=>0≤v∧v≤255) (ul G.real TE.real a i):=by
  unfold ul
  refine Ok.br (fun _=>Ok.ret ⟨by omega,by omega⟩) (fun hc=>Ok.gd hi ?_)
  have hc:i<a.length:=by simpa using hc
  obtain⟨z,hz,hm⟩:=CE hi hc
  have:=hb z hm
  refine Ok.gt hz (Ok.ret ?_)
  rw[w64 (by omega) (by omega)]
  exact this
 obtain⟨v,h1,h2⟩:=this
 exact⟨v,h1,h2⟩
theorem qJ (a:List Int) (h:a.length≤4096):Ok (fun r=>NetW r.1∧I64 r.2.2.2) (fj G.real TE.real a):=by
 unfold fj eR pW
 refine Ok.cl (R:=fun r=>NetW r.1∧I64 r.2.2.2) (Ok.lP (Ok.cl (R:=fun r=>NetW r.1∧cI r.2) (Ok.cl (fK _ (Bd a h) 9) fun x1 h1=>Ok.br (fun _=>?_) (fun _=>?_)) fun x2 h2=>?_)) fun x h=>Ok.ret h
 ·exact Ok.cl (B0 _ h1) fun x2 h2=>Ok.ret h2
 ·exact Ok.cl (sq _ h1 9 (by omega) (by omega)) fun x2 h2=>Ok.ret ⟨h2.1.1,h2.2⟩
 ·exact Ok.cl (yA _ h2.2 h2.1) fun x3 h3=>Ok.cl (yA _ h3.2 h2.1) fun x4 h4=>Ok.cl (DJ _ h4.2) fun x5 h5=>Ok.ret ⟨h2.1,h5.1⟩
theorem CS {n:Network} {a b:Scan} (h1:scB n a=true) (h2:scB n b=true) (h3:a.Thing=b.Thing) (h4:cmS a b<0) (h5:a.Kind≠4) (h6:(a.Kind=3∧b.Kind=2∧a.Trip.Leg=b.Trip.Leg∧a.Trip.Day=b.Trip.Day)∨byB n (bhB n a) (bfB n b)=true):cfB n a b=true:=by
 unfold cfB
 rw[h1,h2,FR,decide_eq_true h3,decide_eq_false (show¬0≤cmS a b by omega),decide_eq_false h5]
 simp only[Bool.true_and,Bool.not_false]
 split
 ·rfl
 ·rcases h6 with h6|h6
  ·exact absurd h6 ‹_›
  ·exact h6
theorem tB {n:Network} {th:Int} {t:Trip} (h:scB n (ldS n th t)=true):bhB n (ldS n th t)=⟨(lgOf n t.Leg).To,enN n t.Leg t.Day⟩:=by
 unfold bhB
 rw[if_pos h];rfl
theorem rh {n:Network} {th:Int} {t:Trip} (h:scB n (drS n th t)=true):bhB n (drS n th t)=⟨(lgOf n t.Leg).To,enN n t.Leg t.Day⟩:=by
 unfold bhB plB
 rw[if_pos h,if_pos h];rfl
theorem uO {n:Network} {th w:Int} {f:ByteArray} (h:scB n (heS th w f)=true):bhB n (heS th w f)=⟨f,w⟩:=by
 unfold bhB plB
 rw[if_pos h,if_pos h];rfl
theorem Cv {n:Network} {th:Int} {t:Trip} (h:scB n (ldS n th t)=true):bfB n (ldS n th t)=⟨(lgOf n t.Leg).From,stN n t.Leg t.Day⟩:=by
 unfold bfB
 rw[if_pos h];rfl
theorem yB {n:Network} {th:Int} {t:Trip} (h:scB n (drS n th t)=true):bfB n (drS n th t)=⟨(lgOf n t.Leg).From,stN n t.Leg t.Day⟩:=by
 unfold bfB
 rw[if_pos h];rfl
theorem qx {n:Network} (hn:NetOk n) (hb:netB n=true) {th:Int} (hth:1≤th∧th≤9999) {p:ByteArray}:∀{l:List Trip} {x:ByteArray} {b:Int},gn n p x b l→∀{a:Scan} {K:List Scan},K.Sublist (stl n th l)→scB n a=true→a.Thing=th→a.Kind≠4→
 (∀s∈stl n th l,cmS a s<0)→(∀t∈l,byB n (bhB n a) ⟨(lgOf n t.Leg).From,stN n t.Leg t.Day⟩=true)→Chn n (some a) K
 |[],x,b,_,a,K,hK,_,_,_,_,_=>by
  rw[List.sublist_nil.1 hK];exact trivial
 |t::l,x,b,hp,a,K,hK,h1,h2,h3,h4,h5=>by
  obtain⟨i1,i2⟩:=ff hn hb hth hp
  obtain⟨k1,k2,k3,k4,k5,k6,k7⟩:=ba hn hp t (by simp)
  have hc:=hn.change
  have hld:=(i2 (ldS n th t) (by simp[stl])).2.2.2
  have hdr:=(i2 (drS n th t) (by simp[stl])).2.2.2
  have hrest:∀u∈l,byB n ⟨(lgOf n t.Leg).To,enN n t.Leg t.Day⟩ ⟨(lgOf n u.Leg).From,stN n u.Leg u.Day⟩=true:=fun u hu=>
   (ib hn hb k7 (by omega) (by omega) (lB (by omega) hp.2.2.2) u hu).1 _ (Int.le_refl _)
  obtain⟨q1,q2⟩:=List.pairwise_cons.1 i1
  obtain⟨q3,q4⟩:=List.pairwise_cons.1 q2
  have step:∀{c:Scan} {M:List Scan},M.Sublist (drS n th t::stl n th l)→scB n c=true→c.Thing=th→c.Kind≠4→(∀s∈drS n th t::stl n th l,cmS c s<0)→(∀u∈l,byB n (bhB n c) ⟨(lgOf n u.Leg).From,stN n u.Leg u.Day⟩=true)→cfB n c (drS n th t)=true→Chn n (some c) M:=by
   intro c M hM c1 c2 c3 c4 c5 c6
   cases hM with
   |cons _ hM=>exact qx hn hb hth hp.2.2.2 hM c1 c2 c3 (fun s hs=>c4 s (List.mem_cons_of_mem _ hs)) c5
   |cons_cons _ hM=>exact⟨c6,qx hn hb hth hp.2.2.2 hM hdr rfl (by show(2:Int)≠4;omega) q3 (by rw[rh hdr];exact hrest)⟩
  cases hK with
  |cons _ hK=>
   exact step hK h1 h2 h3 (fun s hs=>h4 s (List.mem_cons_of_mem _ hs)) (fun u hu=>h5 u (by simp[hu]))
    (CS h1 hdr h2 (h4 _ (by simp[stl])) h3 (.inr (by rw[yB hdr];exact h5 t (by simp))))
  |cons_cons _ hK=>
   refine⟨CS h1 hld h2 (h4 _ (by simp[stl])) h3 (.inr (by rw[Cv hld];exact h5 t (by simp))),?_⟩
   exact step hK hld rfl (by show(3:Int)≠4;omega) q1 (by rw[tB hld];exact hrest)
    (CS hld hdr rfl (q1 _ (by simp)) (by show(3:Int)≠4;omega) (.inl ⟨rfl,rfl,rfl,rfl⟩))
structure Seen (n:Network) (F:List Scan) (th:Int):Prop where
 str:StrS F
 sc:∀s∈F,scB n s=true
 sof:sofB n F th=F
 cn:cnB n F th=F
 cls:clsB n F th=[]
theorem yx {n:Network} (hn:NetOk n) (hb:netB n=true) {th:Int} (hth:1≤th∧th≤9999) {p x:ByteArray} {w:Int} {l:List Trip} (hx:x∈plc n) (h0:0≤w) (h1:w≤100000) (hp:gn n p x w l) (hl:l.length≤90) {K:List Scan} (hK:K.Sublist (stl n th l)):
 Seen n (heS th w x::K) th:=by
 obtain⟨i1,i2⟩:=ff hn hb hth hp
 have hhe:=yg hb hth hx h0 h1
 have hlt:∀s∈stl n th l,cmS (heS th w x) s<0:=fun s hs=>by
  obtain⟨j1,j2,j3,_⟩:=i2 s hs
  by_cases he:w<s.At
  ·exact od (.inl he)
  ·exact od (.inr ⟨by show w=s.At;omega,j2.symm,by rw[j3 (by omega)];show(1:Int)<3;omega⟩)
 have hstr:StrS (heS th w x::K):=List.pairwise_cons.2 ⟨fun s hs=>hlt s (hK.subset hs),i1.sublist hK⟩
 have hsc:∀s∈heS th w x::K,scB n s=true:=fun s hs=>by
  rcases List.mem_cons.1 hs with rfl|hs
  ·exact hhe
  ·exact(i2 s (hK.subset hs)).2.2.2
 have hthing:∀s∈heS th w x::K,s.Thing=th:=fun s hs=>by
  rcases List.mem_cons.1 hs with rfl|hs
  ·rfl
  ·exact(i2 s (hK.subset hs)).2.1
 have hlen:(heS th w x::K).length≤200:=by
  have:=hK.length_le
  rw[ua] at this
  simp only[List.length_cons];omega
 have hchn:Chn n none (heS th w x::K):=qx hn hb hth hp hK hhe rfl (by show(1:Int)≠4;omega) hlt (by
  rw[uO hhe]
  exact fun t ht=>(ib hn hb hx h0 h1 hp t ht).1 _ (Int.le_refl _))
 have hsof:=BJ hstr hlen hsc hthing
 refine⟨hstr,hsc,hsof,?_,?_⟩
 ·show cnG n none (sofB n _ th)=_
  rw[hsof];exact tT hchn
 ·unfold clsB
  rw[hsof];exact Ck hchn
end Go.Vs
