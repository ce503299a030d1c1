/- Part of the proofs of this seat's laws: Vf. No condition. -/
import Derived.Test.YticpmdigfdpmfaaGreatVe
import Derived.Deep.LoopGhost
import Derived.KernelRfl
import Derived.IntWalk
set_option linter.unusedVariables false
set_option linter.unusedSimpArgs false
set_option linter.unusedSectionVars false
namespace Go.Vs
open Go.RowKit
abbrev CF:=Nat→Cal→X→Prop
inductive AStep (c:Unit→Prop) (k:Unit→Prop):Prop
 |mk (h:c ()) (hk:k ()):AStep c k
def aSd (c:Cn) (k:Unit→Prop):Prop:=match c with
 |none=>k ()
 |some c=>AStep c k
theorem fZ {c:Cn} {k:Unit→Prop} (h:aSd c k):Sd c∧k ():=by
 cases c with
 |none=>exact⟨trivial,h⟩
 |some c=>obtain⟨h1,h2⟩:=h;exact⟨h1,h2⟩
inductive ACall (F:CF) (f:Nat) (ld:Bool) (as:List A) (k:X→Prop):Prop
 |mk (as':List A) (x:X) (he:as=as') (h:F f (.ro as') x) (hl:ld=false∨x.fresh=true) (hc:x.count≤16) (hk:k x):ACall F f ld as k
inductive ACallR (F:CF) (f:Nat) (ld:Bool) (as:List A) (l:X→V) (k:V→Prop):Prop
 |mk (as':List A) (x:X) (v:V) (he:as=as') (h:F f (.ro as') x) (hl:ld=false∨x.fresh=true) (hc:x.count≤16) (hv:l x=v) (hk:k v):ACallR F f ld as l k
inductive ANew (es:List (List D)) (n:Nat) (k:List (List D)→Nat→Prop):Prop
 |mk (es':List (List D)) (n':Nat) (h1:es=es') (h2:n=n') (hk:k es' n'):ANew es n k
inductive AVal (r:List (List R)) (k:List (List R)→Prop):Prop
 |mk (r':List (List R)) (h:r=r') (hk:k r'):AVal r k
inductive AGet {α:Type} (es:List α) (i:Nat) (k:α→Prop):Prop
 |mk (e:α) (h:es[i]?=some e) (hk:k e):AGet es i k
def CV (agg:Bool) (off k:Nat) (e:List D):Option V:=if off+k≤e.length then(rv ((e.drop off).take k)).bind (mkV agg) else none
def EY (st:St):V→Option (List (List D)×Nat×Nat)
 |.c (.p id kk i off)=>(ph kk (st.ent id)).map fun es=>(es,i,off)
 |_=>none
def Fz (k:Nat) (st:St) (pv xv:V):Option (St×Nat×Nat×List (List D)×Nat×Nat×List D×Cn):=
 match pv,dQ xv with
 |.c (.p id kk i off),some xs=>match Nat.beq xs.length k,Cs.solid xs,ph kk (st.ent id) with
  |true,true,some es=>match gAbsorb st xs with
   |some (ds,st1,c)=>match st1.ent id with
    |some _=>some (st1,id,kk,es,i,off,ds,c)
    |none=>none
   |none=>none
  |_,_,_=>none
 |_,_=>none
def Fh (st:St):V→Option (Nat×Nat×Nat×List C)
 |.c (.p id kk i off)=>match st.ent id with
  |some (.opn k0 _ i0 cs)=>match Nat.beq k0 kk with
   |true=>some (i,i0,off,cs)
   |false=>none
  |_=>none
 |_=>none
def ve (agg:Bool) (off k:Nat) (cs:List C):Option V:=if off+k≤cs.length then mkV agg ((cs.drop off).take k) else none
def FN (k:Nat) (st:St) (pv xv:V):Option (Nat×Nat×Nat×Nat×List (List D)×List C):=
 match pv,dQ xv with
 |.c (.p id kk i off),some xs=>match Nat.beq xs.length k,Cs.solid xs,st.ent id with
  |true,true,some (.opn k0 es i0 cs)=>match Nat.beq k0 kk,Nat.ble (off+k) cs.length with
   |true,true=>some (id,k0,i,i0,es,bj cs off xs)
   |_,_=>none
  |_,_,_=>none
 |_,_=>none
def gRC (g:G) (st:St):C→Option (R×Cn)
 |.r x=>some (x,none)
 |.n k=>some (.s k [],none)
 |.f id k lo n=>match ph k (st.ent id) with
  |some es=>some (.s k (g.rd es lo n),some fun _=>lo+n≤es.length)
  |none=>none
 |_=>none
def BB (g:G) (st:St):List C→Option (List R×Cn)
 |[]=>some ([],none)
 |c::cs=>match gRC g st c,BB g st cs with
  |some (r,p),some (rs,q)=>some (r::rs,oZ p q)
  |_,_=>none
def gA (g:G) (st:St):V→Option (A×Cn)
 |.c x=>match gRC g st x with
  |some (r,p)=>some (.c r,p)
  |none=>none
 |.g cs=>match BB g st cs with
  |some (r,p)=>some (.g r,p)
  |none=>none
 |.q cs=>some (.q cs,none)
 |_=>none
def gAs (g:G) (st:St):List O→Option (List A×Cn)
 |[]=>some ([],none)
 |x::xs=>match gA g st (st.ev x),gAs g st xs with
  |some (r,p),some (rs,q)=>some (r::rs,oZ p q)
  |_,_=>none
mutual
def gRd (g:G):D→R
 |.r x=>x
 |.o k es=>.s k (g.rda es)
def AO (g:G):List D→List R
 |[]=>[]
 |d::ds=>gRd g d::AO g ds
end
def sa (g:G) (id:Nat) (st:St):D→C×St
 |.r x=>(.r x,st)
 |.o k es=>(.f id k 0 (g.dlen es),st.set id (.arr k es))
def gNames (g:G):Nat→St→List D→List C×St
 |_,st,[]=>([],st)
 |id,st,d::ds=>match sa g id st d with
  |(c,st1)=>match gNames g (id+1) st1 ds with
   |(cs,st2)=>(c::cs,st2)
mutual
def sS (g:G) (nid:Nat) (st:St):X→V×St
 |.c d=>match sa g nid st d with
  |(c,s)=>(.c c,s)
 |.g ds=>match gNames g nid st ds with
  |(c,s)=>(.g c,s)
 |.u xs=>match wl g nid st xs with
  |(c,s)=>(.u c,s)
 |.p ds=>match gNames g nid st ds with
  |(c,s)=>(.c (.p (nid+ds.length) ds.length 0 0),s.set (nid+ds.length) (.foc ds.length [] c []))
def wl (g:G) (nid:Nat) (st:St):List X→List V×St
 |[]=>([],st)
 |x::xs=>match sS g nid st x with
  |(v,s)=>match wl g (nid+x.count) s xs with
   |(vs,s2)=>(v::vs,s2)
end
mutual
def vm (g:G):X→V
 |.c d=>.c (.r (gRd g d))
 |.g ds=>.g ((AO g ds).map C.r)
 |.u xs=>.u (wT g xs)
 |.p ds=>.q (AO g ds)
def wT (g:G):List X→List V
 |[]=>[]
 |x::xs=>vm g x::wT g xs
end
theorem sA {g:G} (hg:g.Ok) {st:St} {x:C} {r:R} {p:Cn} (h:gRC g st x=some (r,p)) (hp:Sd p):kX st x=some r:=by
 unfold gRC at h
 split at h
 ·cases h;rfl
 ·cases h;rfl
 ·split at h
  ·rename_i hrow;cases h;simp[kX,gK hrow,hg.rd];exact hp
  ·cases h
 ·cases h
theorem ub {g:G} (hg:g.Ok) {st:St}:∀{cs:List C} {r:List R} {p:Cn},BB g st cs=some (r,p)→Sd p→iV st cs=some r
 |[],r,p,h,_=>by simp[BB] at h;simp[iV,h.1]
 |c::cs,r,p,h,hp=>by
  simp only[BB] at h
  split at h
  ·rename_i h1 h2;cases h;simp[iV,sA hg h1 (bE hp).1,ub hg h2 (bE hp).2]
  ·cases h
theorem Ek {g:G} (hg:g.Ok) {st:St} {x:V} {r:A} {p:Cn} (h:gA g st x=some (r,p)) (hp:Sd p):toA st x=some r:=by
 unfold gA at h
 split at h
 ·split at h
  ·rename_i hh;cases h;simp[toA,sA hg hh hp]
  ·cases h
 ·split at h
  ·rename_i hh;cases h;simp[toA,ub hg hh hp]
  ·cases h
 ·cases h;rfl
 ·cases h
theorem jM {g:G} (hg:g.Ok) {st:St}:∀{xs:List O} {r:List A} {p:Cn},gAs g st xs=some (r,p)→Sd p→jD st xs=some r
 |[],r,p,h,_=>by simp[gAs] at h;simp[jD,h.1]
 |x::xs,r,p,h,hp=>by
  simp only[gAs] at h
  split at h
  ·rename_i h1 h2;cases h;simp[jD,Ek hg h1 (bE hp).1,jM hg h2 (bE hp).2]
  ·cases h
theorem Cg {g:G} (hg:g.Ok) (d:D):gRd g d=mo d:=by cases d<;>simp[gRd,mo,hg.rda]
theorem yM {g:G} (hg:g.Ok) (ds:List D):AO g ds=e8 ds:=by
 induction ds with
 |nil=>simp[AO,e8]
 |cons d ds ih=>simp[AO,e8,Cg hg,ih]
theorem jW {g:G} (hg:g.Ok) (id:Nat) (st:St) (d:D):sa g id st d=gq id st d:=by cases d<;>simp[sa,gq,hg.dlen]
theorem ej {g:G} (hg:g.Ok):∀(ds:List D) (id:Nat) (st:St),gNames g id st ds=aU id st ds
 |[],_,_=>rfl
 |d::ds,id,st=>by simp only[gNames,aU,jW hg,ej hg ds]
theorem uL {g:G} (hg:g.Ok) (x:X):∀(id:Nat) (st:St),sS g id st x=x.own id st:=by
 refine X.rec (motive_1:=fun x=>∀(id:Nat) (st:St),sS g id st x=x.own id st) (motive_2:=fun xs=>∀(id:Nat) (st:St),wl g id st xs=X.owns id st xs) ?_ ?_ ?_ ?_ ?_ ?_ x
 ·intro d id st;simp only[sS,X.own,jW hg]
 ·intro ds id st;simp only[sS,X.own,ej hg]
 ·intro xs ih id st;simp only[sS,X.own,ih]
 ·intro ds id st;simp only[sS,X.own,ej hg]
 ·intro id st;simp only[wl,X.owns]
 ·intro x xs ih1 ih2 id st;simp only[wl,X.owns,ih1,ih2]
theorem yL {g:G} (hg:g.Ok) (x:X):vm g x=V.ofX x:=by
 refine X.rec (motive_1:=fun x=>vm g x=V.ofX x) (motive_2:=fun xs=>wT g xs=V.ofXs xs) ?_ ?_ ?_ ?_ ?_ ?_ x
 ·intro d;simp only[vm,V.ofX,Cg hg]
 ·intro ds;simp only[vm,V.ofX,yM hg,oJ,List.map_map];rfl
 ·intro xs ih;simp only[vm,V.ofX,ih]
 ·intro ds;simp only[vm,V.ofX,yM hg]
 ·simp only[wT,V.ofXs]
 ·intro x xs ih1 ih2;simp only[wT,V.ofXs,ih1,ih2]
def sY (st:St):V→Option (AM×St×Cn)
 |.c (.p id k i off)=>match lq st id k with
  |some cs=>if i=0∧off=0 then(match gAbsorb (st.kill id) cs with
   |some (ds,s,c)=>some (.p ds,s,c)
   |none=>none) else none
  |none=>none
 |.c c=>match gAbsorb st [c] with
  |some ([d],s,c)=>some (.m d,s,c)
  |_=>none
 |.g cs=>match gAbsorb st cs with
  |some (ds,s,c)=>some (.g ds,s,c)
  |none=>none
 |_=>none
def zu (g:G) (nid:Nat) (st:St):V→AM→Option St
 |.c (.p id k _ _),.p ds=>match Nat.beq ds.length k with
  |true=>(match gNames g nid st ds with
   |(cs,s)=>some (s.set id (.foc k [] cs [])))
  |false=>none
 |.c c,.m d=>il st c d
 |.g cs,.g ds=>fB st cs ds
 |_,_=>none
theorem ky {st s:St} {v:V} {a0:AM} {c:Cn} (h:sY st v=some (a0,s,c)) (hc:Sd c):jA st v=some (a0,s):=by
 unfold sY at h
 unfold jA
 split at h
 ·split at h
  ·rename_i cs hb
   split at h
   ·rename_i hc2
    split at h
    ·rename_i ds s' c' hh
     cases h
     simp only[hb,hc2,and_self,if_true,bQ hh hc]
    ·cases h
   ·cases h
  ·cases h
 ·rename_i c0 hnp
  split at h
  ·rename_i d s' c' hh
   cases h
   simp only[bQ hh hc]
  ·cases h
 ·split at h
  ·rename_i ds s' c' hh
   cases h
   simp only[bQ hh hc]
  ·cases h
 ·cases h
theorem rP {g:G} (hg:g.Ok) {nid:Nat} {st s:St} {v:V} {x:AM} (h:zu g nid st v x=some s):back nid st v x=some s:=by
 unfold zu at h
 unfold back
 split at h
 ·rename_i id k i off ds
  split at h
  ·rename_i hk
   have hk:=Nat.eq_of_beq_eq_true hk
   simp only[if_pos hk]
   rw[ej hg] at h
   exact h
  ·cases h
 ·rename_i c d
  cases c<;>exact h
 ·exact h
 ·cases h
inductive ACallM (F:CF) (f:Nat) (ld:Bool) (a0:AM) (as:List A) (k:X→AM→Prop):Prop
 |mk (a0':AM) (as':List A) (x:X) (a1:AM) (he0:a0=a0') (he:as=as') (h:F f (.mu a0' as' a1) x) (hl:ld=false) (hc:x.count≤8) (hc2:a1.cnt≤8) (hk:k x a1):ACallM F f ld a0 as k
inductive ACallMR (F:CF) (f:Nat) (ld:Bool) (a0:AM) (as:List A) (l:X→V) (k:V→AM→Prop):Prop
 |mk (a0':AM) (as':List A) (x:X) (a1:AM) (v:V) (he0:a0=a0') (he:as=as') (h:F f (.mu a0' as' a1) x) (hl:ld=false) (hc:x.count≤8) (hc2:a1.cnt≤8) (hv:l x=v) (hk:k v a1):ACallMR F f ld a0 as l k
inductive ACallV (F:CF) (ld:Bool) (r:R) (as:List A) (k:X→Prop):Prop
 |mk (f:Nat) (bs:List (List R)) (as':List A) (x:X) (hr:r=.fn f bs) (he:as++bs.map A.q=as') (h:F f (.cl as') x) (hl:ld=false∨x.fresh=true) (hc:x.count≤16) (hk:k x):ACallV F ld r as k
inductive ASst (F:CF) (f t q k:Nat) (es:List (List D)) (K:List (List D)→Prop):Prop
 |mk (es':List (List D)) (h:F f (.ss t q k es es') (.u [])) (hk:K es'):ASst F f t q k es K
inductive AClo (r:R) (k:R→Prop):Prop
 |mk (r':R) (h:r=r') (hk:k r'):AClo r k
inductive AB2 (g:G) (rows:List (List R)) (k:ByteArray→Prop):Prop
 |mk (ns:List Int) (h:bsR rows=some ns) (hk:k (g.bstr ns)):AB2 g rows k
def F9 (st:St):V→V→Option ((Nat×Nat×Nat×Nat×List (List D))×(Unit→Prop))
 |.ifc t (.f id k lo n),.clo q [.p bid k1 i off]=>match st.ent id,st.ent bid with
  |some (.arr k' es),some (.foc k2 [] [.f id' k3 lo' n'] [])=>match Nat.beq k' k,Nat.beq id' id,Nat.beq k3 k,Nat.beq lo 0,Nat.beq lo' 0,Nat.beq k1 1,Nat.beq k2 1,Nat.beq i 0,Nat.beq off 0 with
   |true,true,true,true,true,true,true,true,true=>some ((t,q,k,id,es),fun _=>n=es.length∧n'=n)
   |_,_,_,_,_,_,_,_,_=>none
  |_,_=>none
 |_,_=>none
theorem AI {st:St} {a b:V} {p:Nat×Nat×Nat×Nat×List (List D)} {c:Unit→Prop} (h:F9 st a b=some (p,c)) (hc:c ()):pI st a b=some p:=by
 unfold F9 at h
 split at h
 ·rename_i t id k lo n q bid k1 i off
  split at h
  ·rename_i k' es k2 id' k3 lo' n' h1 h2
   split at h
   ·rename_i b1 b2 b3 b4 b5 b6 b7 b8 b9
    have b1:=Nat.eq_of_beq_eq_true b1
    have b2:=Nat.eq_of_beq_eq_true b2
    have b3:=Nat.eq_of_beq_eq_true b3
    have b4:=Nat.eq_of_beq_eq_true b4
    have b5:=Nat.eq_of_beq_eq_true b5
    have b6:=Nat.eq_of_beq_eq_true b6
    have b7:=Nat.eq_of_beq_eq_true b7
    have b8:=Nat.eq_of_beq_eq_true b8
    have b9:=Nat.eq_of_beq_eq_true b9
    subst b1;subst b2;subst b3;subst b4;subst b5;subst b6;subst b7;subst b8;subst b9
    cases h
    obtain⟨c1,c2⟩:=hc
    simp only[pI,h1,h2,c1,c2,and_self,if_true]
   ·cases h
  ·cases h
 ·cases h
def gGo (g:G) (F:CF) (nid:Nat) (st:St) (s:Ins) (K:St→Prop):Prop:=
 match s.i with
 |.call f own xs=>match gAs g st xs with
  |some (as,c)=>match own with
   |true=>aSd c fun _=>ACall F f (gZ st xs) as fun res=>match sS g nid st res with
    |(v,st1)=>K (st1.putO s.d v)
   |false=>aSd c fun _=>ACallR F f (gZ st xs) as (vm g) fun v=>K (st.putO s.d v)
  |none=>False
 |.callm f own x xs=>match sY st (st.ev x) with
  |some (a0,s1,c0)=>match gAs g st xs with
   |some (as,c)=>match own with
    |true=>aSd (oZ c0 c) fun _=>ACallM F f (gZ st xs) a0 as fun res a1=>match zu g (nid+8) s1 (st.ev x) a1 with
     |some s2=>match sS g nid s2 res with
      |(v,st1)=>K (st1.putO s.d v)
     |none=>False
    |false=>aSd (oZ c0 c) fun _=>ACallMR F f (gZ st xs) a0 as (vm g) fun v a1=>match zu g (nid+8) s1 (st.ev x) a1 with
     |some s2=>K (s2.putO s.d v)
     |none=>False
   |none=>False
  |none=>False
 |.clo live n xs=>match live with
  |true=>match sj n (xs.map st.ev) with
   |some v=>K (st.putO s.d v)
   |none=>False
  |false=>match pY st (xs.map st.ev) with
   |some (bs,st1)=>AClo (.fn n bs) fun r=>K (st1.putO s.d (.c (.r r)))
   |none=>False
 |.callv own x xs=>match own with
  |true=>match st.ev x with
   |.c (.r r)=>match gAs g st xs with
    |some (as,c)=>aSd c fun _=>ACallV F (gZ st xs) r as fun res=>match sS g nid st res with
     |(v,st1)=>K (st1.putO s.d v)
    |none=>False
   |_=>False
  |false=>False
 |.sst f x y=>match F9 st (st.ev x) (st.ev y) with
  |some ((t,q,k,id,es),c)=>AStep c fun _=>ASst F f t q k es fun es'=>K ((st.set id (.arr k es')).putO s.d (.u []))
  |none=>False
 |.b2s x=>match st.ev x with
  |.c c=>match gRC g st c with
   |some (.s k rows,cn)=>match Nat.beq k 1 with
    |true=>aSd cn fun _=>AB2 g rows fun z=>K (st.putO s.d (.c (.r (.v (.string z)))))
    |false=>False
   |_=>False
  |_=>False
 |.ia k x i=>match gIa g k (st.ev x) (st.ev i) with
  |some (.own c v)=>AStep c fun _=>K (st.putO s.d v)
  |some (.ro es j)=>AStep (fun _=>0≤j) fun _=>AGet es (g.nat j) fun e=>K (st.putO s.d (.q e))
  |none=>False
 |.ld agg k p=>match EY st (st.ev p) with
  |some (es,i,off)=>AGet es i fun e=>match CV agg off k e with
   |some v=>K (st.putO s.d v)
   |none=>False
  |none=>match Fh st (st.ev p) with
   |some (i,i0,off,cs)=>AStep (fun _=>i=i0) fun _=>match ve agg off k cs with
    |some v=>K (st.putO s.d v)
    |none=>False
   |none=>match mE agg k (st.ev p) st with
    |some v=>K (st.putO s.d v)
    |none=>False
 |.st k p x=>match Fz k st (st.ev p) (st.ev x) with
  |some (st1,id,kk,es,i,off,ds,c)=>aSd c fun _=>AGet es i fun e=>match Nat.ble (off+k) e.length with
   |true=>ANew (g.dset es i (bj e off ds)) 0 fun r _=>K ((st1.set id (.arr kk r)).putO s.d (.c .un))
   |false=>False
  |none=>match FN k st (st.ev p) (st.ev x) with
   |some (id,k0,i,i0,es,cs)=>AStep (fun _=>i=i0) fun _=>K ((st.set id (.opn k0 es i0 cs)).putO s.d (.c .un))
   |none=>match nc k (st.ev p) (st.ev x) st with
    |some st1=>K (st1.putO s.d (.c .un))
    |none=>False
 |.sl k x lo hi=>match gSl g k (dK st 0 lo) (hi.bind fun z=>ka (st.ev z)) hi.isNone (st.ev x) with
  |some (.own c v)=>AStep c fun _=>K (st.putO s.d v)
  |some (.ro c r)=>AStep c fun _=>AVal r fun r=>K (st.putO s.d (.c (.r (.s k r))))
  |none=>False
 |.bslr k xs=>match jK k st (xs.map st.ev) with
  |some (es,s1,c)=>aSd c fun _=>AVal (g.rda es) fun r=>K ((s1.kill nid).putO s.d (.c (.r (.s k r))))
  |none=>False
 |i=>match Fi g st i with
  |some (k,p)=>aSd p.c fun _=>ANew p.es p.n fun es n=>K ((p.s.set nid (.arr k es)).putO s.d (.c (.f nid k 0 n)))
  |none=>match gEx g nid st i with
   |some ⟨none,v,st1⟩=>K (st1.putO s.d v)
   |some ⟨some c,v,st1⟩=>AStep c fun _=>K (st1.putO s.d v)
   |none=>False
def zg (g:G) (F:CF) (nid:Nat) (st:St) (s:Ins) (K:St→Prop):Prop:=
 match s.g with
 |none=>gGo g F nid st s K
 |some (t,true)=>match st.get t with
  |.c (.r (.v (.bool b)))=>match b with
   |true=>gGo g F nid st s K
   |false=>K (st.putO s.d (.u []))
  |.u []=>K (st.putO s.d (.u []))
  |_=>False
 |some (t,false)=>match st.get t with
  |.c (.r (.v (.bool b)))=>match b with
   |false=>gGo g F nid st s K
   |true=>K (st.putO s.d (.u []))
  |.u []=>K (st.putO s.d (.u []))
  |_=>False
def ED (g:G) (F:CF):Nat→St→List Ins→(St→Prop)→Prop
 |_,st,[],K=>K st
 |nid,st,s::ss,K=>zg g F nid st s fun st'=>ED g F (nid+16) st' ss K
def w7 (g:G) (F:CF) (cls:List (List Nat)):Nat→St→List Ins→List Fx→(St→Prop)→Prop
 |_,st,[],acc,K=>match xl cls acc.reverse with
  |true=>K st
  |false=>False
 |nid,st,s::ss,acc,K=>zg g F nid st s fun st'=>w7 g F cls (nid+16) st' ss (s.fx st st'::acc) K
section
variable {g:G} {F:CF} {P:Program} {nid:Nat} {s:Ins} {st:St}
theorem AZ {agg:Bool} {k:Nat} {pv v:V} {es:List (List D)} {i off:Nat} {e:List D} (h:EY st pv=some (es,i,off)) (he:es[i]?=some e) (hl:CV agg off k e=some v):mE agg k pv st=some v:=by
 unfold EY at h
 split at h
 ·rename_i id kk i' off'
  simp only[Option.map_eq_some_iff] at h
  obtain⟨es',h1,h2⟩:=h
  cases h2
  have:=gK h1
  simp only[mE,this,Ent.k,if_true,Ent.takeC,he]
  unfold CV at hl
  split at hl
  ·rename_i hc;rw[if_pos hc];exact hl
  ·cases hl
 ·cases h
theorem Ae {k:Nat} {pv xv:V} {es:List (List D)} {st1:St} {id kk i off:Nat} {ds e:List D} {c:Cn} (h:Fz k st pv xv=some (st1,id,kk,es,i,off,ds,c)) (hc:Sd c) (he:es[i]?=some e) (hl:Nat.ble (off+k) e.length=true):nc k pv xv st=some (st1.set id (.arr kk (es.set i (bj e off ds)))):=by
 unfold Fz at h
 split at h
 ·rename_i id' kk' i' off' xs hxs
  split at h
  ·rename_i es' hb1 hb2 hrow
   split at h
   ·rename_i ds' st1' c' hab
    split at h
    ·rename_i e0 hent
     cases h
     have hr:=gK hrow
     have hb1':=Nat.eq_of_beq_eq_true hb1
     have hl':=Nat.le_of_ble_eq_true hl
     simp only[nc,hxs,if_pos (And.intro hb1' hb2),hr,bQ hab hc,hent,he,true_and,if_pos hl']
    ·cases h
   ·cases h
  ·cases h
 ·cases h
theorem Ag {agg:Bool} {k:Nat} {pv v:V} {i i0 off:Nat} {cs:List C} (h:Fh st pv=some (i,i0,off,cs)) (he:i=i0) (hl:ve agg off k cs=some v):mE agg k pv st=some v:=by
 unfold Fh at h
 split at h
 ·rename_i id kk i' off'
  split at h
  ·rename_i k0 es i0' cs' hent
   split at h
   ·rename_i hk
    have hk:=Nat.eq_of_beq_eq_true hk
    cases h
    subst hk
    subst he
    unfold ve at hl
    split at hl
    ·rename_i hle;simp only[mE,hent,Ent.k,if_true,Ent.takeC,hle,and_self,Option.bind_some];exact hl
    ·cases hl
   ·cases h
  ·cases h
 ·cases h
theorem Bc {k:Nat} {pv xv:V} {id k0 i i0:Nat} {es:List (List D)} {cs:List C} (h:FN k st pv xv=some (id,k0,i,i0,es,cs)) (he:i=i0):nc k pv xv st=some (st.set id (.opn k0 es i0 cs)):=by
 unfold FN at h
 split at h
 ·rename_i id' kk i' off xs hxs
  split at h
  ·rename_i k0' es' i0' cs' hb1 hb2 hent
   split at h
   ·rename_i hb3 hb4
    cases h
    have hb1':=Nat.eq_of_beq_eq_true hb1
    have hb3':=Nat.eq_of_beq_eq_true hb3
    have hb4':=Nat.le_of_ble_eq_true hb4
    subst hb3'
    subst he
    simp only[nc,hxs,if_pos (And.intro hb1' hb2),hent,true_and,if_pos hb4']
   ·cases h
  ·cases h
 ·cases h
theorem aX {K:St→Prop} {p:V×St} (hp:ex nid st s.i=some p) (h:K (p.2.putO s.d p.1)):cd P nid st s K:=by
 unfold cd
 split
 ·rename_i f own xs hi;rw[hi] at hp;cases hp
 ·rename_i f x xs hi;rw[hi] at hp;cases hp
 ·rename_i own x xs hi;rw[hi] at hp;cases hp
 ·rename_i f x y hi;rw[hi] at hp;cases hp
 ·rw[hp];exact h
theorem oL (hg:g.Ok) (hF:∀f c x,F f c x→FnU P f c x) {K:St→Prop} (h:gGo g F nid st s K):cd P nid st s K:=by
 unfold gGo at h
 split at h
 ·rename_i f own xs hi
  split at h
  ·rename_i as c has
   split at h
   ·obtain⟨h0,as',x,he,h1,hl,h2,h3⟩:=fZ h
    subst he
    unfold cd
    rw[hi]
    simp only[jM hg has h0]
    rw[uL hg] at h3
    exact⟨x,hF _ _ _ h1,hl,h2,h3⟩
   ·obtain⟨h0,as',x,v,he,h1,hl,h2,hv,h3⟩:=fZ h
    subst he
    subst hv
    unfold cd
    rw[hi]
    simp only[jM hg has h0]
    rw[yL hg] at h3
    exact⟨x,hF _ _ _ h1,hl,h2,h3⟩
  ·cases h
 ·rename_i f own x xs hi
  split at h
  ·rename_i a0 s1 c0 hm
   split at h
   ·rename_i as c has
    split at h
    ·obtain⟨h0,a0',as',res,a1,he0,he,h1,hl,hc,hc2,h3⟩:=fZ h
     subst he0
     subst he
     split at h3
     ·rename_i s2 hb
      unfold cd
      rw[hi]
      simp only[ky hm (bE h0).1,jM hg has (bE h0).2]
      rw[uL hg] at h3
      exact⟨res,a1,s2,hF _ _ _ h1,hl,hc,hc2,rP hg hb,h3⟩
     ·cases h3
    ·obtain⟨h0,a0',as',res,a1,v,he0,he,h1,hl,hc,hc2,hv,h3⟩:=fZ h
     subst he0
     subst he
     subst hv
     split at h3
     ·rename_i s2 hb
      unfold cd
      rw[hi]
      simp only[ky hm (bE h0).1,jM hg has (bE h0).2]
      rw[yL hg] at h3
      exact⟨res,a1,s2,hF _ _ _ h1,hl,hc,hc2,rP hg hb,h3⟩
     ·cases h3
   ·cases h
  ·cases h
 ·rename_i live n xs hi
  split at h
  ·split at h
   ·rename_i v hv
    exact aX (p:=(v,st)) (by rw[hi];simp[ex,hv]) h
   ·cases h
  ·split at h
   ·rename_i bs st1 hb
    obtain⟨r,e1,h2⟩:=h
    subst e1
    exact aX (p:=(.c (.r (.fn n bs)),st1)) (by rw[hi];simp[ex,tw,hb]) h2
   ·cases h
 ·rename_i own x xs hi
  split at h
  ·split at h
   ·rename_i r hev
    split at h
    ·rename_i as c has
     obtain⟨h0,f,bs,as',x',hr,he,h1,hl,h2,h3⟩:=fZ h
     subst hr
     subst he
     unfold cd
     rw[hi]
     simp only[hev,jM hg has h0]
     rw[uL hg] at h3
     exact⟨x',hF _ _ _ h1,hl,h2,h3⟩
    ·cases h
   ·cases h
  ·cases h
 ·rename_i f x y hi
  split at h
  ·rename_i t q k id es c hp
   obtain⟨h0,es',h1,h2⟩:=h
   unfold cd
   rw[hi]
   simp only[AI hp h0]
   exact⟨es',hF _ _ _ h1,h2⟩
  ·cases h
 ·rename_i x hi
  split at h
  ·rename_i c hc
   split at h
   ·rename_i k rows cn hr
    split at h
    ·rename_i hk
     have hk:=Nat.eq_of_beq_eq_true hk
     subst hk
     obtain⟨h0,ns,h1,h2⟩:=fZ h
     rw[hg.bstr] at h2
     exact aX (p:=(.c (.r (.v (.string (strOfNums ns)))),st)) (by rw[hi];simp[ex,hc,sB,sA hg hr h0,h1]) h2
    ·cases h
   ·cases h
  ·cases h
 ·rename_i k x i hi
  split at h
  ·rename_i c v hp
   obtain⟨h1,h2⟩:=h
   exact aX (p:=(v,st)) (by rw[hi];simp[ex,Ea hg hp h1]) h2
  ·rename_i es j hp
   obtain⟨h1,e,h2,h3⟩:=h
   rw[hg.nat] at h2
   exact aX (p:=(.q e,st)) (by rw[hi];simp[ex,FP hp h1 h2]) h3
  ·cases h
 ·rename_i agg k p hi
  split at h
  ·rename_i es i off hp
   obtain⟨e,h2,h3⟩:=h
   split at h3
   ·rename_i v hv
    exact aX (p:=(v,st)) (by rw[hi];simp[ex,AZ hp h2 hv]) h3
   ·cases h3
  ·split at h
   ·rename_i i i0 off cs hp
    obtain⟨h1,h2⟩:=h
    split at h2
    ·rename_i v hv
     exact aX (p:=(v,st)) (by rw[hi];simp[ex,Ag hp h1 hv]) h2
    ·cases h2
   ·split at h
    ·rename_i v hv;exact aX (p:=(v,st)) (by rw[hi];simp[ex,hv]) h
    ·cases h
 ·rename_i k p x hi
  split at h
  ·rename_i st1 id kk es i off ds c hp
   obtain⟨h0,e,h2,h3⟩:=fZ h
   split at h3
   ·rename_i hl
    obtain⟨r,_,e1,_,h3⟩:=h3
    rw[hg.dset] at e1
    subst e1
    exact aX (p:=(.c .un,_)) (by rw[hi];simp only[ex,Ae hp h0 h2 hl];rfl) h3
   ·cases h3
  ·split at h
   ·rename_i id k0 i i0 es cs hp
    obtain⟨h1,h2⟩:=h
    exact aX (p:=(.c .un,_)) (by rw[hi];simp only[ex,Bc hp h1];rfl) h2
   ·split at h
    ·rename_i st1 hv;exact aX (p:=(.c .un,st1)) (by rw[hi];simp[ex,hv]) h
    ·cases h
 ·rename_i k x lo hi' hi
  split at h
  ·rename_i c v hp
   obtain⟨h1,h2⟩:=h
   exact aX (p:=(v,st)) (by rw[hi];simp[ex,D9 hg hp h1]) h2
  ·rename_i c r hp
   obtain⟨h1,r',e1,h2⟩:=h
   subst e1
   exact aX (p:=(.c (.r (.s k r)),st)) (by rw[hi];simp[ex,E1 hg hp h1]) h2
  ·cases h
 ·rename_i k xs hi
  split at h
  ·rename_i es s1 c hp
   obtain⟨h0,r',e1,h2⟩:=fZ h
   rw[hg.rda] at e1
   subst e1
   exact aX (p:=(.c (.r (.s k (toRdss es))),s1.kill nid)) (by rw[hi];simp[ex,sH,jn hp h0]) h2
  ·cases h
 ·split at h
  ·rename_i k p hp
   obtain⟨h0,es,n,e1,e2,h3⟩:=fZ h
   subst e1
   subst e2
   exact aX (p:=(.c (.f nid k 0 p.n),_)) (Ax hg hp h0) h3
  ·split at h
   ·rename_i v st1 hp
    exact aX (p:=(v,st1)) (vA hg hp trivial) h
   ·rename_i c v st1 hp
    obtain⟨h1,h2⟩:=h
    exact aX (p:=(v,st1)) (vA hg hp h1) h2
   ·cases h
theorem pJ (hg:g.Ok) (hF:∀f c x,F f c x→FnU P f c x) {K:St→Prop} (h:zg g F nid st s K):step P nid st s K:=by
 unfold zg at h
 unfold step
 split at h
 ·rename_i hs;rw[hs];exact oL hg hF h
 ·rename_i t hs
  rw[hs]
  simp only
  split at h
  ·rename_i b hb
   rw[hb]
   cases b with
   |true=>exact oL hg hF h
   |false=>exact h
  ·rename_i hb;rw[hb];exact h
  ·cases h
 ·rename_i t hs
  rw[hs]
  simp only
  split at h
  ·rename_i b hb
   rw[hb]
   cases b with
   |false=>exact oL hg hF h
   |true=>exact h
  ·rename_i hb;rw[hb];exact h
  ·cases h
theorem sJ (hg:g.Ok) (hF:∀f c x,F f c x→FnU P f c x) {K:St→Prop}:∀(ss:List Ins) (nid:Nat) (st:St),ED g F nid st ss K→BG P nid st ss K
 |[],_,_,h=>h
 |s::ss,nid,st,h=>by
  simp only[ED] at h
  simp only[BG]
  obtain⟨st',h1,h2⟩:=ul (pJ hg hF h)
  exact ui (K:=(· =st')) (fun x hx=>by subst hx;exact sJ hg hF ss _ _ h1) h2
theorem pF (hg:g.Ok) (hF:∀f c x,F f c x→FnU P f c x) {cls:List (List Nat)} {K:St→Prop}:∀(ss:List Ins) (nid:Nat) (st:St) (acc:List Fx),w7 g F cls nid st ss acc K→rY P cls nid st ss acc K
 |[],_,_,acc,h=>by
  simp only[w7] at h
  simp only[rY]
  split at h
  ·rename_i hi;exact⟨hi,h⟩
  ·cases h
 |s::ss,nid,st,acc,h=>by
  simp only[w7] at h
  simp only[rY]
  obtain⟨st',h1,h2⟩:=ul (pJ hg hF h)
  exact ui (K:=(· =st')) (fun x hx=>by subst hx;exact pF hg hF ss _ _ _ h1) h2
end
inductive E where
 |norm
 |exit (id:Nat)
 |ret
inductive J where
 |skip
 |reg (dr:Option (List (List Nat))) (ops:List Ins) (keep:List Nat)
 |seq (a b:J)
 |cond (x:O) (a b:J)
 |block (id:Nat) (b:J)
 |loop (b:J)
 |bl (id:Nat) (b:J)
 |exit (id:Nat)
 |ret
 |gh (b:J)
 |ga (b:J)
inductive AGh (g:G) (K:Nat→St→Prop):Nat→St→Prop
 |nil {nx:Nat} {st:St} (h:K nx st):AGh g K nx st
 |opn {nx:Nat} {st:St} (id k i:Nat) (es:List (List D)) (e:List D) (h1:st.ent id=some (.arr k es)) (h2:es[i]?=some e) (h3:Nat.ble e.length 16=true) (hk:AGh g K (nx+16) ((gNames g nx st e).2.set id (.opn k es i (gNames g nx st e).1))):AGh g K nx st
 |cls {nx:Nat} {st:St} (id k i:Nat) (es:List (List D)) (cs:List C) (ds:List D) (st1:St) (c:Cn) (r:List (List D)) (h1:st.ent id=some (.opn k es i cs)) (h2:gAbsorb st cs=some (ds,st1,c)) (h3:Sd c) (h4:g.dset es i ds=r) (hk:AGh g K nx (st1.set id (.arr k r))):AGh g K nx st
 |fzc {nx:Nat} {st:St} (id k j:Nat) (es r:List (List D)) (h1:st.ent id=some (.arr k es)) (h4:g.fzc j es=r) (hk:AGh g K nx (st.set id (.arr k r))):AGh g K nx st
def mY:List Nat→List (Nat×Option Ent)→List (Nat×Option Ent)
 |_,[]=>[]
 |seen,(id,e)::r=>match wV seen id with
  |true=>mY seen r
  |false=>match e with
   |none=>mY (id::seen) r
   |some x=>(id,some x)::mY (id::seen) r
def qO (keep:List Nat) (st:St):St:={sl:=keep.map fun t=>(t,st.get t),tab:=mY [] st.tab}
def Wk (pn:List Nat) (nx:Nat) (st:St) (nx':Nat) (st':St):Prop:=
 ∀(M:MS) (w0:World) (N:Nat) (a:Act) (w:World),EP pn M→Sim M w0 (· <nx) N st a w→Sim M w0 (· <nx') N st' a w
inductive ALoop (pn:List Nat) (b:(E→Nat→St→Prop)→Nat→St→Prop) (Q:E→Nat→St→Prop) (nx:Nat) (st:St):Prop
 |mk (α:Type) (S:α→St) (n:Nat) (μ:α→Nat) (x0:α) (h0:Wk pn nx st n (S x0)) (hb:∀x,b (fun e nx' st'=>match e with
  |.norm=>∃x',Wk pn nx' st' n (S x')∧μ x'<μ x
  |e=>Q e nx' st') n (S x)):ALoop pn b Q nx st
def LenOk (st:St):Prop:=
 (∀(t k:Nat) (es:List (List R)),st.get t=V.c (C.r (R.s k es))→es.length≤maxLen)∧
 (∀(t:Nat) (cs:List C) (j k:Nat) (es:List (List R)),st.get t=V.g cs→cs[j]?=some (C.r (R.s k es))→es.length≤maxLen)∧
 (∀(id k:Nat) (pr:List (List D)) (cs:List C) (po:List (List D)) (j k':Nat) (es:List (List R)),st.ent id=some (Ent.foc k pr cs po)→cs[j]?=some (C.r (R.s k' es))→es.length≤maxLen)∧
 (∀(id k:Nat) (es:List (List D)),st.ent id=some (Ent.arr k es)→es.length≤maxLen)
inductive ABL (pn:List Nat) (id:Nat) (b:(E→Nat→St→Prop)→Nat→St→Prop) (Q:E→Nat→St→Prop) (nx:Nat) (st:St):Prop
 |mk (α:Type) (S:α→St) (n:Nat) (μ:α→Nat) (x0:α) (β:Type) (T:β→St) (m:Nat) (R:β→Prop)
  (h0:Wk pn nx st n (S x0))
  (hb:∀x,LenOk (S x)→b (fun e nx' st'=>match e with
   |.norm=>∃x',Wk pn nx' st' n (S x')∧μ x'<μ x
   |.exit i=>match Nat.beq i id with
    |true=>∃y,Wk pn nx' st' m (T y)∧R y
    |false=>Q (.exit i) nx' st'
   |.ret=>Q .ret nx' st') n (S x))
  (hk:∀y,R y→Q .norm m (T y)):ABL pn id b Q nx st
def awp (g:G) (F:CF) (pn:List Nat):J→(E→Nat→St→Prop)→Nat→St→Prop
 |.skip,Q,nx,st=>Q .norm nx st
 |.reg none ops keep,Q,nx,st=>ED g F nx st ops fun st'=>Q .norm (nx+16*ops.length) (qO keep st')
 |.reg (some cls) ops keep,Q,nx,st=>w7 g F cls nx st ops [] fun st'=>Q .norm (nx+16*ops.length) (qO keep st')
 |.seq a b,Q,nx,st=>awp g F pn a (fun e nx st=>match e with
  |.norm=>awp g F pn b Q nx st
  |e=>Q e nx st) nx st
 |.cond x a b,Q,nx,st=>match st.ev x with
  |.c (.r (.v (.bool t)))=>match t with
   |true=>awp g F pn a Q nx st
   |false=>awp g F pn b Q nx st
  |_=>False
 |.block id b,Q,nx,st=>awp g F pn b (fun e nx st=>match e with
  |.exit i=>match Nat.beq i id with
   |true=>Q .norm nx st
   |false=>Q (.exit i) nx st
  |e=>Q e nx st) nx st
 |.loop b,Q,nx,st=>ALoop pn (fun Q nx st=>awp g F pn b Q nx st) Q nx st
 |.bl id b,Q,nx,st=>ABL pn id (fun Q nx st=>awp g F pn b Q nx st) Q nx st
 |.exit id,Q,nx,st=>Q (.exit id) nx st
 |.ret,Q,nx,st=>Q .ret nx st
 |.gh b,Q,nx,st=>AGh g (fun nx st=>awp g F pn b Q nx st) nx st
 |.ga b,Q,nx,st=>awp g F pn b (fun e nx st=>match e with
  |.norm=>AGh g (fun nx st=>Q .norm nx st) nx st
  |e=>Q e nx st) nx st
def aP (P:Program) (N:Nat):Code→J→Bool
 |.skip,.skip=>true
 |.region _ ops d,.reg dr is _=>(match dr with
  |none=> !d
  |some cls=>d&&mX cls 0 ops.toList cls)&&dv P N ops.toList ops.toList is
 |.seq a b,.seq a' b'=>aP P N a a'&&aP P N b b'
 |.cond c a b,.cond x a' b'=>aT c x&&aP P N a a'&&aP P N b b'
 |.block id b,.block id' b'=>id==id'&&aP P N b b'
 |.loop b,.loop b'=>aP P N b b'
 |.block id (.loop b),.bl id' b'=>id==id'&&aP P N b b'
 |.exit i,.exit i'=>i==i'
 |.ret,.ret=>true
 |c,.gh b'=>aP P N c b'
 |c,.ga b'=>aP P N c b'
 |_,_=>false
def E.to:E→Exit
 |.norm=>.normal
 |.exit id=>.exit id
 |.ret=>.ret
def Hj (M:MS) (w0:World) (N:Nat) (Q:E→Nat→St→Prop):Exit→Act→World→Prop:=
 fun e a w=>∃e' nx st,e'.to=e∧Q e' nx st∧Sim M w0 (· <nx) N st a w
section
variable {φ:Nat→Value} {S:Nat→Prop} {fp:Nat→List Nat} {M:MS} {w0:World} {U:Nat→Prop} {N:Nat} {st st':St} {a:Act} {w w':World} {P:Program} {g:G} {F:CF}
theorem im:∀(r:List (Nat×Option Ent)) (seen:List Nat) (id:Nat),aM none (mY seen r) id=if id∈seen then none else aM none r id
 |[],seen,id=>by simp[mY,aM]
 |(i,e)::r,seen,id=>by
  simp only[mY]
  split
  ·rename_i hm
   rw[jT] at hm
   rw[im r seen id]
   simp only[aM]
   by_cases h1:id∈seen
   ·simp[h1]
   ·have:id≠i:=fun e=>h1 (e▸hm)
    simp[h1,this]
  ·rename_i hm
   have hm:¬i∈seen:=fun h=>by rw[(jT _ _).2 h] at hm;cases hm
   cases e with
   |none=>
    simp only
    rw[im r (i::seen) id]
    simp only[aM,List.mem_cons]
    by_cases h1:id=i
    ·subst h1;simp
    ·simp[h1]
   |some x=>
    simp only[aM]
    rw[im r (i::seen) id]
    by_cases h1:id=i
    ·subst h1;simp[hm]
    ·simp[h1]
theorem tk (st:St):∀(keep:List Nat) (t:Nat),aM (V.c .un) (keep.map fun t=>(t,st.get t)) t=st.get t∨aM (V.c .un) (keep.map fun t=>(t,st.get t)) t=.c .un
 |[],t=>.inr rfl
 |k::keep,t=>by
  simp only[List.map_cons,aM]
  by_cases h:t=k
  ·subst h;simp
  ·simp only[h,if_false];exact tk st keep t
theorem tj {keep:List Nat} (h:Sim M w0 U N st a w):Sim M w0 U N (qO keep st) a w:=by
 obtain⟨φ,S,fp,h⟩:=h
 have he:∀id,(qO keep st).ent id=st.ent id:=fun id=>by
  unfold qO St.ent
  simp only
  rw[im]
  simp
 refine⟨φ,S,fp,{h with
  ents:=fun id e hh=>h.ents id e (by rw[←he];exact hh)
  disj:=fun id e id' e' h1 h2=>h.disj id e id' e' (by rw[←he];exact h1) (by rw[←he];exact h2)
  slots:=fun t=>?_}⟩
 rcases tk st keep t with hq|hq
 ·have:(qO keep st).get t=st.get t:=hq
  rw[this];exact h.slots t
 ·have:(qO keep st).get t=.c .un:=hq
  rw[this]
  exact⟨by simp[V.inU,C.inU],.inr rfl,by simp[vRep,aJ]⟩
theorem C8 (h:SimX φ S fp M w0 U N st a w):LenOk st:=by
 have one:∀{k es y},a7 w S (.s k es) y→es.length≤maxLen:=fun hr=>by
  simp only[a7] at hr
  obtain⟨_,cap,_,h1,h2,_⟩:=hr
  exact Nat.le_trans h1 h2
 refine⟨fun t k es ht=>?_,fun t cs j k es ht hj=>?_,fun id k pr cs po j k' es he hj=>?_,fun id k es he=>?_⟩
 ·have:=(h.slots t).2.2
  rw[ht] at this
  simp only[vRep,aJ] at this
  exact one this
 ·have:=(h.slots t).2.2
  rw[ht] at this
  simp only[vRep] at this
  obtain⟨ys,_,hr⟩:=this
  obtain⟨y,_,hy⟩:=oI _ _ hr j _ hj
  simp only[aJ] at hy
  exact one hy
 ·obtain⟨_,_,h3,_⟩:=h.ents id _ he
  obtain⟨ty,x1,xs,x2,f1,f2,_,_,⟨_,hr⟩,_⟩:=h3
  obtain⟨y,_,hy⟩:=oI _ _ hr j _ hj
  simp only[aJ] at hy
  exact one hy
 ·obtain⟨_,_,h3,_⟩:=h.ents id _ he
  obtain⟨ty,xs,fps,o1,_⟩:=h3
  rcases o1.2 with⟨_,h0⟩|⟨g,cap,cur,_,_,_,hnc,hcm,_⟩
  ·omega
  ·exact Nat.le_trans hnc hcm
theorem ua (hg:g.Ok) {K:Nat→St→Prop} {nx:Nat} (h:AGh g K nx st):∀{a:Act} {w:World},Sim M w0 (· <nx) N st a w→∃nx' st',K nx' st'∧Sim M w0 (· <nx') N st' a w:=by
 induction h with
 |nil h=>intro a w hs;exact⟨_,_,h,hs⟩
 |@opn nx st id k i es e h1 h2 h3 hk ih=>
  intro a w hs
  obtain⟨φ,S,fp,hs⟩:=hs
  have hle:=Nat.le_of_ble_eq_true h3
  obtain⟨φ',fp',hs'⟩:=hs.opn_ (nid:=nx) h1 h2 (fun c h1 _ h2=>by
   have h2:c<_:=h2
   omega)
  rw[←ej hg] at hs'
  exact ih ⟨φ',S,fp',hs'.mono (fun i hi=>by
   rcases hi with hi|hi
   ·have hi:i<_:=hi
    show i<_
    omega
   ·show i<_
    omega)⟩
 |cls id k i es cs ds st1 c r h1 h2 h3 h4 hk ih=>
  intro a w hs
  obtain⟨φ,S,fp,hs⟩:=hs
  obtain⟨fp',hs'⟩:=hs.cls_ h1 (bQ h2 h3)
  rw[hg.dset] at h4
  rw[h4] at hs'
  exact ih ⟨φ,S,fp',hs'⟩
 |fzc id k j es r h1 h4 hk ih=>
  intro a w hs
  obtain⟨φ,S,fp,hs⟩:=hs
  obtain⟨S',fp',hs'⟩:=hs.fzc_ j h1
  rw[hg.fzc] at h4
  rw[h4] at hs'
  exact ih ⟨φ,S',fp',hs'⟩
theorem dL {pn:List Nat} (hpn:EP pn M) (hm:P.follows .mixedOrders=true) (hg:g.Ok) (hF:∀f c x,F f c x→FnU P f c x):∀(j:J) (c:Code) (Q:E→Nat→St→Prop) (nx:Nat) {st:St} {a:Act} {w:World},aP P N c j=true→Sim M w0 (· <nx) N st a w→awp g F pn j Q nx st→c.wp P (Hj M w0 N Q) a w
 |.skip,c,Q,nx,st,a,w,hf,h,hq=>by
  cases c<;>simp[aP] at hf
  exact wp_skip ⟨.norm,nx,st,rfl,hq,h⟩
 |.reg d ops keep,c,Q,nx,st,a,w,hf,h,hq=>by
  cases c with
  |region id os d'=>
   simp only[aP,Bool.and_eq_true] at hf
   obtain⟨hd,hf⟩:=hf
   cases d with
   |none=>
    simp only[Bool.not_eq_true'] at hd
    subst hd
    simp only[awp] at hq
    exact qy (fun st' a' w' hk hs=>⟨.norm,_,_,rfl,hk,tj hs⟩) hf h (sJ hg hF _ _ _ hq)
   |some cls=>
    simp only[Bool.and_eq_true] at hd
    obtain⟨rfl,hd⟩:=hd
    simp only[awp] at hq
    exact p8 hm hf hd (fun st' a' w' hk hs=>⟨.norm,_,_,rfl,hk,tj hs⟩) h (pF hg hF _ _ _ _ hq)
  |_=>simp[aP] at hf
 |.seq x y,c,Q,nx,st,a,w,hf,h,hq=>by
  cases c with
  |seq cx cy=>
   simp only[aP,Bool.and_eq_true] at hf
   simp only[awp] at hq
   refine wp_seq (wp_mono (dL hpn hm hg hF x cx _ nx hf.1 h hq) ?_)
   rintro e a' w' ⟨e',nx',st',rfl,hq',hs'⟩
   cases e' with
   |norm=>exact dL hpn hm hg hF y cy Q nx' hf.2 hs' hq'
   |exit id=>exact⟨.exit id,nx',st',rfl,hq',hs'⟩
   |ret=>exact⟨.ret,nx',st',rfl,hq',hs'⟩
  |_=>simp[aP] at hf
 |.cond x p q,c,Q,nx,st,a,w,hf,h,hq=>by
  cases c with
  |cond cc cp cq=>
   simp only[aP,Bool.and_eq_true] at hf
   obtain⟨⟨h1,h2⟩,h3⟩:=hf
   simp only[awp] at hq
   split at hq
   ·rename_i t ht
    obtain⟨φ,S,fp,hs⟩:=h
    obtain⟨hv,_⟩:=hs.ev h1
    rw[ht] at hv
    have hcv:=(bG hv).1
    refine wp_cond hcv ?_
    cases t with
    |true=>exact dL hpn hm hg hF p cp Q nx h2 ⟨φ,S,fp,hs⟩ hq
    |false=>exact dL hpn hm hg hF q cq Q nx h3 ⟨φ,S,fp,hs⟩ hq
   ·cases hq
  |_=>simp[aP] at hf
 |.block id b,c,Q,nx,st,a,w,hf,h,hq=>by
  cases c with
  |block id' cb=>
   simp only[aP,Bool.and_eq_true,beq_iff_eq] at hf
   obtain⟨rfl,hf⟩:=hf
   simp only[awp] at hq
   refine wp_block (wp_mono (dL hpn hm hg hF b cb _ nx hf h hq) ?_)
   rintro e a' w' ⟨e',nx',st',rfl,hq',hs'⟩
   cases e' with
   |norm=>exact⟨.norm,nx',st',rfl,hq',hs'⟩
   |exit i=>
    simp only[E.to,Exit.inBlock]
    simp only at hq'
    split
    ·rename_i hi
     subst hi
     rw[show Nat.beq i i=true from Nat.beq_refl i] at hq'
     exact⟨.norm,nx',st',rfl,hq',hs'⟩
    ·rename_i hi
     split at hq'
     ·rename_i hb;exact absurd (Nat.eq_of_beq_eq_true hb) hi
     exact⟨.exit i,nx',st',rfl,hq',hs'⟩
   |ret=>exact⟨.ret,nx',st',rfl,hq',hs'⟩
  |_=>simp[aP] at hf
 |.loop b,c,Q,nx,st,a,w,hf,h,hq=>by
  cases c with
  |loop cb=>
   simp only[aP] at hf
   simp only[awp] at hq
   obtain⟨α,S,n,μ,x0,hx0,hround⟩:=hq
   refine wp_loop_ghost (fun k a w=>∃x,μ x=k∧Sim M w0 (· <n) N (S x) a w) (μ x0) ⟨x0,rfl,hx0 _ _ _ _ _ hpn h⟩ ?_
   rintro k a' w' ⟨x,rfl,hs⟩
   refine wp_mono (dL hpn hm hg hF b cb _ n hf hs (hround x)) ?_
   rintro e a2 w2 ⟨e',nx',st',rfl,hq',hs'⟩
   cases e' with
   |norm=>
    obtain⟨x',hw,hlt⟩:=hq'
    exact⟨μ x',hlt,x',rfl,hw _ _ _ _ _ hpn hs'⟩
   |exit i=>exact⟨.exit i,nx',st',rfl,hq',hs'⟩
   |ret=>exact⟨.ret,nx',st',rfl,hq',hs'⟩
  |_=>simp[aP] at hf
 |.bl id b,c,Q,nx,st,a,w,hf,h,hq=>by
  cases c with
  |block id' cl=>
   cases cl with
   |loop cb=>
    simp only[aP,Bool.and_eq_true,beq_iff_eq] at hf
    obtain⟨rfl,hf⟩:=hf
    simp only[awp] at hq
    obtain⟨α,S,n,μ,x0,β,T,m,R,hx0,hround,hk⟩:=hq
    refine wp_block (wp_loop_ghost (fun k a w=>∃x,μ x=k∧Sim M w0 (· <n) N (S x) a w) (μ x0) ⟨x0,rfl,hx0 _ _ _ _ _ hpn h⟩ ?_)
    rintro k a' w' ⟨x,rfl,hs⟩
    have hlen:LenOk (S x):=by
     obtain⟨φ,S',fp,hs⟩:=hs
     exact C8 hs
    refine wp_mono (dL hpn hm hg hF b cb _ n hf hs (hround x hlen)) ?_
    rintro e a2 w2 ⟨e',nx',st',rfl,hq',hs'⟩
    cases e' with
    |norm=>
     obtain⟨x',hw,hlt⟩:=hq'
     exact⟨μ x',hlt,x',rfl,hw _ _ _ _ _ hpn hs'⟩
    |exit i=>
     show Exit.inBlock _ (Hj M w0 N Q) (.exit i) a2 w2
     simp only[Exit.inBlock]
     simp only at hq'
     split
     ·rename_i hi
      subst hi
      rw[show Nat.beq i i=true from Nat.beq_refl i] at hq'
      obtain⟨y,hw,hr⟩:=hq'
      exact⟨.norm,m,T y,rfl,hk y hr,hw _ _ _ _ _ hpn hs'⟩
     ·rename_i hi
      split at hq'
      ·rename_i hb;exact absurd (Nat.eq_of_beq_eq_true hb) hi
      exact⟨.exit i,nx',st',rfl,hq',hs'⟩
    |ret=>exact⟨.ret,nx',st',rfl,hq',hs'⟩
   |_=>simp[aP] at hf
  |_=>simp[aP] at hf
 |.exit id,c,Q,nx,st,a,w,hf,h,hq=>by
  cases c with
  |exit id'=>
   simp only[aP,beq_iff_eq] at hf
   subst hf
   exact wp_exit ⟨.exit _,nx,st,rfl,hq,h⟩
  |_=>simp[aP] at hf
 |.gh b,c,Q,nx,st,a,w,hf,h,hq=>by
  have hf':aP P N c b=true:=by
   cases c<;>first|(simpa [aP] using hf)|(rename_i x;cases x<;>simpa [aP] using hf)|(rename_i x y;cases y<;>simpa [aP] using hf)
  simp only[awp] at hq
  obtain⟨nx',st',hq',hs'⟩:=ua hg hq h
  exact dL hpn hm hg hF b c Q nx' hf' hs' hq'
 |.ga b,c,Q,nx,st,a,w,hf,h,hq=>by
  have hf':aP P N c b=true:=by
   cases c<;>first|(simpa [aP] using hf)|(rename_i x;cases x<;>simpa [aP] using hf)|(rename_i x y;cases y<;>simpa [aP] using hf)
  simp only[awp] at hq
  refine wp_mono (dL hpn hm hg hF b c _ nx hf' h hq) ?_
  rintro e a' w' ⟨e',nx',st',rfl,hq',hs'⟩
  cases e' with
  |norm=>
   obtain⟨nx2,st2,hq2,hs2⟩:=ua hg hq' hs'
   exact⟨.norm,nx2,st2,rfl,hq2,hs2⟩
  |exit id=>exact⟨.exit id,nx',st',rfl,hq',hs'⟩
  |ret=>exact⟨.ret,nx',st',rfl,hq',hs'⟩
 |.ret,c,Q,nx,st,a,w,hf,h,hq=>by
  cases c<;>simp[aP] at hf
  exact wp_ret ⟨.ret,nx,st,rfl,hq,h⟩
end
end Go.Vs
namespace Go.Vs
instance (n:Nat):OfNat O n:=⟨.t (OfNat.ofNat n)⟩
def jq (d:Nat) (i:I):Ins:=⟨some d,none,i⟩
def jp (i:I):Ins:=⟨none,none,i⟩
def ju (d c:Nat) (i:I):Ins:=⟨some d,some (c,true),i⟩
def jv (d c:Nat) (i:I):Ins:=⟨some d,some (c,false),i⟩
def jm (d:Nat) (x:O):Ins:=⟨some d,none,.mv x⟩
def jl (d k:Nat) (p:O):Ins:=⟨some d,none,.ld true k p⟩
def jk (d:Nat) (p:O):Ins:=⟨some d,none,.ld false 1 p⟩
def jc (d f:Nat) (xs:List O):Ins:=⟨some d,none,.call f true xs⟩
def jf (d o:Nat) (p:O):Ins:=⟨some d,none,.fa o p⟩
def ja (d k:Nat) (x i:O):Ins:=⟨some d,none,.ia k x i⟩
def jb (d:Nat) (op:BinOp) (k:Kd) (x y:O):Ins:=⟨some d,none,.bin op k x y⟩
def js (l:List Ins) (k:List Nat) (j:J):J:=.seq (.reg none l k) j
def ki (n:Int):O:=.k (V.i n)
def kt:O:=.k (V.b true)
def kf:O:=.k (V.b false)
theorem nb {a b:Nat} (h:Nat.ble a b=true):a≤b:=Nat.le_of_ble_eq_true h
end Go.Vs
namespace Go.Vs
open Go.RowKit
inductive RV where
 |t (n:Nat)
 |c (n:Nat) (agg:Bool) (k:Nat)
def tC (P:Program):ResultVar→RV→Bool
 |.tmp n,.t m=>n==m
 |.cell n t,.c m agg k=>n==m&&eI P t==some agg&&(if agg then szT P t==some k else k==1)
 |_,_=>false
def kq (P:Program):List ResultVar→List RV→Bool
 |[],[]=>true
 |x::xs,y::ys=>tC P x y&&kq P xs ys
 |_,_=>false
def zl (st:St):RV→Option V
 |.t n=>some (st.get n)
 |.c n agg k=>mE agg k (st.get n) st
def lv (st:St):List RV→Option (List V)
 |[]=>some []
 |r::rs=>match zl st r,lv st rs with
  |some v,some vs=>some (v::vs)
  |_,_=>none
def u9 (st:St):V→Option (X×St)
 |.c (.p id k i off)=>match jA st (.c (.p id k i off)) with
  |some (.p ds,s)=>some (.p ds,s)
  |_=>none
 |.c c=>match az st [c] with
  |some ([d],s)=>some (.c d,s)
  |_=>none
 |.g cs=>match az st cs with
  |some (ds,s)=>some (.g ds,s)
  |none=>none
 |_=>none
def nF (st:St):List V→Option (List X×St)
 |[]=>some ([],st)
 |v::vs=>match u9 st v with
  |some (x,s)=>match nF s vs with
   |some (xs,s2)=>some (x::xs,s2)
   |none=>none
  |none=>none
def AU (st:St) (rvs:List RV):Option X:=
 match lv st rvs with
 |some [v]=>(u9 st v).map (·.1)
 |some vs=>(nF st vs).map fun p=>.u p.1
 |none=>none
def fu:Nat→List A→List (Nat×V)
 |_,[]=>[]
 |i,.c r::as=>(i,.c (.r r))::fu (i+1) as
 |i,.g rs::as=>(i,.g (rs.map C.r))::fu (i+1) as
 |i,.q rs::as=>(i,.q rs)::fu (i+1) as
def zn (as:List A):St:={sl:=fu 0 as,tab:=[]}
section
variable {φ:Nat→Value} {S:Nat→Prop} {fp:Nat→List Nat} {M:MS} {w0:World} {U:Nat→Prop} {N:Nat} {st st':St} {a:Act} {w w':World} {P:Program}
theorem oF {v:V} {x:X} {y:Value} (h:SimX φ S fp M w0 U N st a w) (hv:vRep w S φ v y) (hx:u9 st v=some (x,st')):
 ∃F,d9 w S x y F∧F.Nodup∧(∀b∈F,(∃i e,st.ent i=some e∧b∈fp i)∧∀i e,st'.ent i=some e→b∉fp i)∧SimX φ S fp M w0 U N st' a w∧(∀i e,st'.ent i=some e→st.ent i=some e):=by
 unfold u9 at hx
 split at hx
 ·rename_i id k i off
  split at hx
  ·rename_i ds s hm
   cases hx
   obtain⟨F,m1,m2,m3,m4,_,m6⟩:=oY h hv hm
   obtain⟨b,Nn,cap,ty,xs,fps,hHd,hy,p1,p2,rfl⟩:=m1
   rw[hHd] at p1 m2 m3
   have h1:Nn=1:=by
    rcases p1.2 with⟨e,_⟩|⟨g,c,cur,e,_⟩
    ·cases e
    ·cases e;rfl
   subst h1
   exact⟨_,⟨b,cap,ty,xs,fps,hy,p1,p2,rfl⟩,m2,m3,m4,m6⟩
  ·cases hx
 ·rename_i c _
  simp only[vRep] at hv
  split at hx
  ·rename_i d s hab
   simp only[Option.some.injEq,Prod.mk.injEq] at hx
   obtain⟨rfl,rfl⟩:=hx
   obtain⟨F,a1,a2,a3,a4,a5,a6⟩:=bt [c] st s [d] [y] hab h ⟨y,[],rfl,hv,rfl⟩
   simp only[am] at a1
   obtain⟨z,zs,f1,f2,e1,rfl,e3,e4,e5⟩:=a1
   cases e1
   subst e5
   simp only[List.append_nil] at a2 a3
   exact⟨f1,e3,a2,a3,a4,a6⟩
  ·cases hx
 ·rename_i cs
  simp only[vRep] at hv
  obtain⟨ys,rfl,hr⟩:=hv
  split at hx
  ·rename_i ds s hab
   simp only[Option.some.injEq,Prod.mk.injEq] at hx
   obtain⟨rfl,rfl⟩:=hx
   obtain⟨F,a1,a2,a3,a4,a5,a6⟩:=bt _ _ _ _ _ hab h hr
   exact⟨F,⟨ys,rfl,a1⟩,a2,a3,a4,a6⟩
  ·cases hx
 ·cases hx
theorem nk:∀(vs:List V) (xs:List X) {st st':St} (ys:List Value),SimX φ S fp M w0 U N st a w→a8 w S φ vs ys→nF st vs=some (xs,st')→
 ∃F,fg w S xs ys F∧F.Nodup∧(∀b∈F,(∃i e,st.ent i=some e∧b∈fp i)∧∀i e,st'.ent i=some e→b∉fp i)∧SimX φ S fp M w0 U N st' a w∧(∀i e,st'.ent i=some e→st.ent i=some e)
 |[],xs,st,st',ys,h,hv,hx=>by
  simp[nF] at hx
  obtain⟨rfl,rfl⟩:=hx
  simp[a8] at hv
  subst hv
  exact⟨[],by simp[fg],by simp,by simp,h,fun _ _ h=>h⟩
 |v::vs,xs,st,st',ys,h,hv,hx=>by
  simp only[a8] at hv
  obtain⟨z,zs,rfl,hz,hzs⟩:=hv
  simp only[nF] at hx
  split at hx
  ·rename_i x s hx1
   split at hx
   ·rename_i xs' s2 hx2
    simp only[Option.some.injEq,Prod.mk.injEq] at hx
    obtain⟨rfl,rfl⟩:=hx
    obtain⟨F1,a1,a2,a3,a4,a6⟩:=oF h hz hx1
    obtain⟨F2,b1,b2,b3,b4,b6⟩:=nk vs xs' zs a4 hzs hx2
    refine⟨F1++F2,?_,?_,fun b hb=>?_,b4,fun i e he=>a6 i e (b6 i e he)⟩
    ·simp only[fg];exact⟨z,zs,F1,F2,rfl,rfl,a1,b1⟩
    ·refine List.nodup_append.2 ⟨a2,b2,fun x hx y hy hxy=>?_⟩
     subst hxy
     obtain⟨⟨i,e,he,hm⟩,_⟩:=b3 x hy
     exact(a3 x hx).2 i e he hm
    ·rcases List.mem_append.1 hb with hb|hb
     ·exact⟨(a3 b hb).1,fun i e he=>(a3 b hb).2 i e (b6 i e he)⟩
     ·obtain⟨⟨i,e,he,hm⟩,h3⟩:=b3 b hb
      exact⟨⟨i,e,a6 i e he,hm⟩,h3⟩
   ·cases hx
  ·cases hx
theorem Cu {n:Nat} {agg:Bool} {k:Nat} {t:TypeId} {v:V} (h:SimX φ S fp M w0 U N st a w) (h1:eI P t=some agg) (h2:agg=true→szT P t=some k) (h3:agg=false→k=1) (he:mE agg k (st.get n) st=some v):
 ∃ad y,a.tmps.getD n undef=.pointer (some ad)∧(loadVar t ad).run P w=.ok y w∧vRep w S φ v y:=by
 obtain⟨ad,y,hpv,hr,_,hv⟩:=zH (p:=.tmp n) (op:=.t n) (by simp[aT]) h1 h2 h3 h he
 refine⟨ad,y,hpv,?_,hv⟩
 simpa [Instr.loadAt,Instr.sureAddr] using hr
def rA (a:Act):ResultVar→Sem Value
 |.tmp t=>Pure.pure (a.tmps.getD t undef)
 |.cell ad t=>do loadVar t (←asAddr (a.tmps.getD ad undef))
theorem As {x:ResultVar} {r:RV} {v:V} (h:SimX φ S fp M w0 U N st a w) (hf:tC P x r=true) (hg:zl st r=some v):
 ∃y,(rA a x).run P w=.ok y w∧vRep w S φ v y:=by
 cases x with
 |tmp n=>
  cases r with
  |t m=>
   simp only[tC,beq_iff_eq] at hf
   subst hf
   simp only[zl,Option.some.injEq] at hg
   subst hg
   exact⟨_,rfl,(h.slots n).2.2⟩
  |c m agg k=>simp[tC] at hf
 |cell n t=>
  cases r with
  |t m=>simp[tC] at hf
  |c m agg k=>
   simp only[tC,Bool.and_eq_true,beq_iff_eq] at hf
   obtain⟨⟨rfl,h1⟩,h2⟩:=hf
   simp only[zl] at hg
   obtain⟨ad,y,e1,e2,e3⟩:=Cu h h1 (fun ha=>by subst ha;simpa using h2) (fun ha=>by subst ha;simpa using h2) hg
   refine⟨y,?_,e3⟩
   simp only[rA,e1,asAddr]
   simpa using e2
theorem iU (h:SimX φ S fp M w0 U N st a w):∀(xs:List ResultVar) (rs:List RV) (vs:List V),kq P xs rs=true→lv st rs=some vs→
 ∃ys:List Value,(xs.mapM (rA a)).run P w=.ok ys w∧a8 w S φ vs ys
 |[],[],vs,_,hg=>by
  simp[lv] at hg
  subst hg
  exact⟨[],by simp,by simp[a8]⟩
 |x::xs,r::rs,vs,hf,hg=>by
  simp only[kq,Bool.and_eq_true] at hf
  simp only[lv] at hg
  split at hg
  ·rename_i v vs' h1 h2
   cases hg
   obtain⟨y,e1,e2⟩:=As h hf.1 h1
   obtain⟨ys,e3,e4⟩:=iU h xs rs vs' hf.2 h2
   refine⟨y::ys,?_,by simp only[a8];exact⟨y,ys,rfl,e2,e4⟩⟩
   rw[List.mapM_cons]
   simp only[Sem.run_bind,e1,Result.andThen_ok,e3,Sem.run_pure]
  ·cases hg
 |[],_::_,_,hf,_=>by simp[kq] at hf
 |_::_,[],_,hf,_=>by simp[kq] at hf
theorem AW {fn:Func} {rvs:List RV} {x:X} (h:SimX φ S fp M w0 U N st a w) (hf:kq P fn.results.toList rvs=true) (hr:AU st rvs=some x):
 ∃(y:Value) (F:List Nat) (st2:St),(results fn a.tmps).run P w=.ok y w∧d9 w S x y F∧F.Nodup∧(∀b∈F,(∃i e,st.ent i=some e∧b∈fp i)∧∀i e,st2.ent i=some e→b∉fp i):=by
 unfold AU at hr
 have hres:∀ys:List Value,(fn.results.toList.mapM (rA a)).run P w=.ok ys w→(results fn a.tmps).run P w=.ok (if hh:ys.toArray.size=1 then ys.toArray[0] else .tuple ys.toArray) w:=by
  intro ys hys
  have hdef:results fn a.tmps=(do
   let vs←fn.results.mapM (rA a)
   Pure.pure (if h:vs.size=1 then vs[0] else .tuple vs)):=rfl
  rw[hdef,Array.mapM_eq_mapM_toList]
  simp[hys]
 split at hr
 ·rename_i v hg
  simp only[Option.map_eq_some_iff] at hr
  obtain⟨⟨x',s⟩,hx,rfl⟩:=hr
  obtain⟨ys,e1,e2⟩:=iU h _ _ _ hf hg
  simp only[a8] at e2
  obtain⟨z,zs,rfl,hz,rfl⟩:=e2
  obtain⟨F,a1,a2,a3,_,_⟩:=oF h hz hx
  refine⟨z,F,s,?_,a1,a2,a3⟩
  rw[hres _ e1]
  simp
 ·rename_i vs hne hg
  simp only[Option.map_eq_some_iff] at hr
  obtain⟨⟨xs,s⟩,hx,rfl⟩:=hr
  obtain⟨ys,e1,e2⟩:=iU h _ _ _ hf hg
  obtain⟨F,a1,a2,a3,_,_⟩:=nk vs xs ys h e2 hx
  refine⟨.tuple ys.toArray,F,s,?_,by simp only[d9];exact⟨ys,rfl,a1⟩,a2,a3⟩
  rw[hres _ e1]
  have hl:ys.length≠1:=by
   intro hl
   match ys,hl with
   |[y],_=>
    cases vs with
    |nil=>simp[a8] at e2
    |cons v vs=>
     simp only[a8] at e2
     obtain⟨z,zs,h1,h2,h3⟩:=e2
     cases h1
     cases vs with
     |nil=>exact hne v rfl
     |cons v2 vs=>simp[a8] at h3
  simp[hl]
 ·cases hr
theorem sE:∀(rs:List R) (ys:List Value),fL w S rs ys→aE w S φ (rs.map C.r) ys
 |[],ys,h=>by simpa [fL,aE] using h
 |r::rs,ys,h=>by
  obtain⟨z,zs,rfl,h2,h3⟩:=h
  exact⟨z,zs,rfl,by simpa [aJ] using h2,sE rs zs h3⟩
theorem lx (extra:Array Value):∀(as:List A) (i:Nat) (pre vs:List Value),pre.length=i→e7 w S as vs→∀t,(aM (V.c .un) (fu i as) t).inU U∧(t<i+vs.length∨aM (V.c .un) (fu i as) t=.c .un)∧vRep w S φ (aM (V.c .un) (fu i as) t) (((pre++vs).toArray++extra).getD t undef)
 |[],i,pre,vs,_,_,t=>by
  have e:aM (V.c .un) (fu i []) t=.c .un:=rfl
  rw[e]
  exact⟨by simp[V.inU,C.inU],.inr rfl,by simp[vRep,aJ]⟩
 |x::as,i,pre,vs,hl,h,t=>by
  obtain⟨z,zs,rfl,h2,h3⟩:=h
  have ih:=lx extra as (i+1) (pre++[z]) zs (by simp[hl]) h3 t
  have hval:((pre++z::zs).toArray++extra).getD i undef=z:=by
   subst hl
   simp[Array.getD_eq_getD_getElem?,Array.getElem?_append]
  have happ:(pre++[z])++zs=pre++z::zs:=by simp
  rw[happ] at ih
  cases x with
  |c r=>
   simp only[fu,aM]
   by_cases ht:t=i
   ·subst ht
    rw[if_pos rfl,hval]
    exact⟨iL,.inl (by simp),by simpa [vRep,aJ,uy] using h2⟩
   ·rw[if_neg ht]
    exact⟨ih.1,ih.2.1.imp (fun h=>by simp at h ⊢;omega) (fun h=>h),ih.2.2⟩
  |g rs=>
   simp only[fu,aM]
   by_cases ht:t=i
   ·subst ht
    rw[if_pos rfl,hval]
    obtain⟨ys,hy,hr⟩:=h2
    exact⟨by simp only[V.inU];exact tI rs,.inl (by simp),by simp only[vRep];exact⟨ys,hy,sE rs ys hr⟩⟩
   ·rw[if_neg ht]
    exact⟨ih.1,ih.2.1.imp (fun h=>by simp at h ⊢;omega) (fun h=>h),ih.2.2⟩
  |q rs=>
   simp only[fu,aM]
   by_cases ht:t=i
   ·subst ht
    rw[if_pos rfl,hval]
    exact⟨by simp[V.inU],.inl (by simp),by simpa only[vRep,uy] using h2⟩
   ·rw[if_neg ht]
    exact⟨ih.1,ih.2.1.imp (fun h=>by simp at h ⊢;omega) (fun h=>h),ih.2.2⟩
def Ck (st:St):V→Option (X×St×Cn)
 |.c (.p id k i off)=>match sY st (.c (.p id k i off)) with
  |some (.p ds,s,p)=>some (.p ds,s,p)
  |_=>none
 |.c c=>match gAbsorb st [c] with
  |some ([d],s,p)=>some (.c d,s,p)
  |_=>none
 |.g cs=>match gAbsorb st cs with
  |some (ds,s,p)=>some (.g ds,s,p)
  |none=>none
 |_=>none
def te (st:St):List V→Option (List X×St×Cn)
 |[]=>some ([],st,none)
 |v::vs=>match Ck st v with
  |some (x,s,p)=>match te s vs with
   |some (xs,s2,q)=>some (x::xs,s2,oZ p q)
   |none=>none
  |none=>none
def y7 (st:St) (rvs:List RV):Option (X×Cn):=
 match lv st rvs with
 |some [v]=>match Ck st v with
  |some (x,_,p)=>some (x,p)
  |none=>none
 |some vs=>match te st vs with
  |some (xs,_,p)=>some (.u xs,p)
  |none=>none
 |none=>none
theorem oK {st s:St} {v:V} {x:X} {p:Cn} (h:Ck st v=some (x,s,p)) (hp:Sd p):u9 st v=some (x,s):=by
 unfold Ck at h
 split at h
 ·split at h
  ·rename_i hh;cases h;simp[u9,ky hh hp]
  ·cases h
 ·rename_i c hnp
  have hv:u9 st (.c c)=match az st [c] with
   |some ([d],s)=>some (.c d,s)
   |_=>none:=by
   cases c<;>first|rfl|exact absurd rfl (hnp _ _ _ _)
  rw[hv]
  split at h
  ·rename_i hh;cases h;simp[bQ hh hp]
  ·cases h
 ·split at h
  ·rename_i hh;cases h;simp[u9,bQ hh hp]
  ·cases h
 ·cases h
theorem mV:∀{vs:List V} {st s:St} {xs:List X} {p:Cn},te st vs=some (xs,s,p)→Sd p→nF st vs=some (xs,s)
 |[],st,s,xs,p,h,_=>by simp[te] at h;simp[nF,h.1,h.2.1]
 |v::vs,st,s,xs,p,h,hp=>by
  simp only[te] at h
  split at h
  ·rename_i h1
   split at h
   ·rename_i h2;cases h;simp[nF,oK h1 (bE hp).1,mV h2 (bE hp).2]
   ·cases h
  ·cases h
theorem xI {st:St} {rvs:List RV} {x:X} {p:Cn} (h:y7 st rvs=some (x,p)) (hp:Sd p):AU st rvs=some x:=by
 unfold y7 at h
 unfold AU
 split at h
 ·split at h
  ·rename_i hh;cases h;simp[oK hh hp]
  ·cases h
 ·rename_i vs hne hv
  split at h
  ·rename_i hh
   cases h
   simp[mV hh hp]
  ·cases h
 ·cases h
inductive ARet (c:Cn) (x y:X):Prop
 |mk (hc:Sd c) (h:y=x):ARet c x y
def endQ (rvs:List RV) (x:X):E→Nat→St→Prop:=fun e _ st=>match e with
 |.exit _=>False
 |_=>match y7 st rvs with
  |some (y,c)=>ARet c x y
  |none=>False
theorem wd {rvs:List RV} {x:X} (h:(match y7 st rvs with
 |some (y,c)=>ARet c x y
 |none=>False)):AU st rvs=some x:=by
 split at h
 ·rename_i y c hy;obtain⟨h1,h2⟩:=h;rw[xI hy h1,h2]
 ·cases h
theorem ay {f:FuncId} {fn:Func} {c:Code} {j:J} {as:List A} {rvs:List RV} {x:X} (hf:P.funcs[f]?=some fn) (hb:fn.body=some c) (hfit:aP P fn.ntmps c j=true) (hn:as.length≤fn.ntmps) (hrv:kq P fn.results.toList rvs=true) (hm:P.follows .mixedOrders=true)
 (h:∀(g:G) (F:CF),g.Ok→(∀f c x,FnU P f c x→F f c x)→awp g F [] j (endQ rvs x) 0 (zn as)):Fn P f as x:=by
 intro w S0 vs hS0 hvs
 have hlen:∀(as:List A) (vs:List Value),e7 w S0 as vs→vs.length=as.length:=by
  intro as
  induction as with
  |nil=>intro vs h;simp only[e7] at h;simp[h]
  |cons x as ih=>intro vs h;obtain⟨z,zs,rfl,_,h3⟩:=h;simp[ih zs h3]
 have hl:=hlen as vs hvs
 refine calls_of_wp hf hb ?_
 have hsim:Sim ⟨[],[],S0⟩ w (· <0) fn.ntmps (zn as) {tmps:=vs.toArray++Array.replicate (fn.ntmps-vs.toArray.size) undef,defers:=[]} w:=by
  refine⟨fun _=>undef,S0,fun _=>[],⟨rfl,by simp;omega,rfl,rfl,rfl,Nat.le_refl _,fun _ _ _=>rfl,fun b hb _=>.inl hb,hS0,fun id e he=>by simp[zn,St.ent,aM] at he,fun id e id' e' he=>by simp[zn,St.ent,aM] at he,fun t=>?_,fun p hp=>by cases hp⟩⟩
  have:=lx (w:=w) (S:=S0) (φ:=fun _=>undef) (U:=(· <0)) (Array.replicate (fn.ntmps-vs.toArray.size) undef) as 0 [] vs rfl hvs t
  exact⟨this.1,this.2.1.imp (fun h=>by omega) (fun h=>h),this.2.2⟩
 refine wp_mono (dL (pn:=[]) (fun p hp=>by cases hp) hm G.real_ok (fun _ _ _ h=>h) j c _ 0 hfit hsim (h G.real (FnU P) G.real_ok (fun _ _ _ h=>h))) ?_
 rintro e a' w' ⟨e',nx,st',rfl,hq,φ,S,fp,hs⟩
 have fin:AU st' rvs=some x→a'.defers=[]∧∃v,(results fn a'.tmps).run P w'=.ok v w'∧∃y F S',Ending.returned v=.returned y∧d9 w' (fun b=>S0 b∨S' b) x y F∧Left w w' F S':=by
  intro hr
  obtain⟨y,F,st2,r1,r2,r3,r4⟩:=AW hs hrv hr
  refine⟨hs.defers,y,r1,y,F,fun b=>S b∧w.heap.size≤b,rfl,oR (fun b hb=>?_) x y F r2,⟨⟨hs.os,hs.tape,hs.output,hs.grow,fun b hb=>hs.old b hb (by intro hh;cases hh)⟩,r3,fun b hb=>?_,fun b hb=>⟨hb.2,hs.sLt b hb.1⟩⟩⟩
  ·by_cases hlt:b<w.heap.size
   ·rcases hs.sIn b hb hlt with h0|h0
    ·exact .inl h0
    ·cases h0
   ·exact .inr ⟨hb,by omega⟩
  ·obtain⟨⟨i,e,he,hm⟩,_⟩:=r4 b hb
   obtain⟨h1,h2,h3⟩:=(hs.ents i e he).2.2.2.2 b hm
   exact⟨h1.resolve_right (by intro hh;cases hh),h2,fun hh=>h3 hh.1⟩
 cases e' with
 |norm=>exact fin (wd hq)
 |exit id=>exact hq.elim
 |ret=>exact fin (wd hq)
end
end Go.Vs
namespace Go.Vs
open Go.RowKit
abbrev Rho:=List (Nat×Option Nat)
def rn:Rho→Nat→Option (Option Nat)
 |[],_=>none
 |(i,j)::r,id=>if id=i then some j else rn r id
def C.le (ρ:Rho) (c:C):C→Prop
 |.un=>True
 |.r x=>c=.r x
 |.n k=>c=.n k
 |.f id k lo mm=>match rn ρ id with
  |some (some j)=>c=.f j k lo mm
  |some none=>(∃k',c=.n k')∧lo=0∧mm=0
  |none=>False
 |.p id k i off=>match rn ρ id with
  |some (some j)=>c=.p j k i off
  |_=>False
 |.m id=>match rn ρ id with
  |some (some j)=>c=.m j
  |_=>False
def Cs.le (ρ:Rho):List C→List C→Prop
 |[],[]=>True
 |c::cs,c'::cs'=>c.le ρ c'∧Cs.le ρ cs cs'
 |_,_=>False
def V.le (ρ:Rho) (v:V):V→Prop
 |.c x'=>match x' with
  |.un=>True
  |x'=>∃x,v=.c x∧x.le ρ x'
 |.g cs'=>∃cs,v=.g cs∧Cs.le ρ cs cs'
 |.q cs=>v=.q cs
 |.u _=>False
 |.ifc _ _=>False
 |.clo _ _=>False
def Ent.le (ρ:Rho) (e:Ent):Ent→Prop
 |.arr k es=>e=.arr k es
 |.foc k pr cs' po=>∃cs,e=.foc k pr cs po∧Cs.le ρ cs cs'
 |.opn k es i cs'=>∃cs,e=.opn k es i cs∧Cs.le ρ cs cs'
 |.mi l=>e=.mi l
 |.ms l=>e=.ms l
def FL (ρ:Rho) (st:St):List (Nat×V)→Prop
 |[]=>True
 |(t,v)::r=>(st.get t).le ρ v∧FL ρ st r
def Fj (ρ:Rho) (st:St):List (Nat×Option Ent)→Prop
 |[]=>True
 |(id,some e')::r=>(match rn ρ id with
  |some (some j)=>∃e,st.ent j=some e∧e.le ρ e'
  |some none=>∃k,e'=.arr k []
  |none=>False)∧Fj ρ st r
 |(_,none)::_=>False
def od (n:Nat):Rho→Bool
 |[]=>true
 |(i,j)::r=>Nat.blt i n&&(match j with
  |some j=>r.all fun p=>match p.2 with
   |some j'=> !Nat.beq j' j
   |none=>true
  |none=>true)&&od n r
theorem j8:∀(ρ:Rho) (id:Nat) (j:Option Nat),rn ρ id=some j→(id,j)∈ρ
 |[],id,j,h=>by simp[rn] at h
 |(i,j')::r,id,j,h=>by
  simp only[rn] at h
  split at h
  ·rename_i hi;subst hi;cases h;simp
  ·simp[j8 r id j h]
theorem gY {n:Nat}:∀(ρ:Rho),od n ρ=true→∀p∈ρ,p.1<n
 |[],_,p,hp=>by simp at hp
 |(i,j)::r,h,p,hp=>by
  simp only[od,Bool.and_eq_true] at h
  rcases List.mem_cons.1 hp with rfl|hp
  ·exact Nat.le_of_ble_eq_true h.1.1
  ·exact gY r h.2 p hp
theorem tc {n:Nat}:∀(ρ:Rho),od n ρ=true→∀id id' j,rn ρ id=some (some j)→rn ρ id'=some (some j)→id=id'
 |[],_,id,id',j,h,_=>by simp[rn] at h
 |(i,j0)::r,h,id,id',j,h1,h2=>by
  simp only[od,Bool.and_eq_true] at h
  have other:∀id,rn r id=some (some j)→j0=some j→False:=fun id hr hj=>by
   have hm:=j8 r id _ hr
   subst hj
   have:=List.all_eq_true.1 h.1.2 _ hm
   simp only[Bool.not_eq_true'] at this
   rw[show Nat.beq j j=true from Nat.beq_refl j] at this
   cases this
  simp only[rn] at h1 h2
  by_cases e1:id=i
  ·by_cases e2:id'=i
   ·rw[e1,e2]
   ·rw[if_pos e1] at h1;rw[if_neg e2] at h2
    exact(other id' h2 (Option.some.inj h1)).elim
  ·by_cases e2:id'=i
   ·rw[if_neg e1] at h1;rw[if_pos e2] at h2
    exact(other id h1 (Option.some.inj h2)).elim
   ·rw[if_neg e1] at h1;rw[if_neg e2] at h2
    exact tc r h.2 id id' j h1 h2
def φρ (ρ:Rho) (φ:Nat→Value):Nat→Value:=fun id=>match rn ρ id with
 |some (some j)=>φ j
 |_=>.slice none 0 0
def fpρ (ρ:Rho) (fp:Nat→List Nat):Nat→List Nat:=fun id=>match rn ρ id with
 |some (some j)=>fp j
 |_=>[]
section
variable {φ:Nat→Value} {S:Nat→Prop} {fp:Nat→List Nat} {M:MS} {w0:World} {U:Nat→Prop} {N:Nat} {st st':St} {a:Act} {w w':World} {P:Program} {ρ:Rho} {n nx:Nat}
theorem C.le_spec (hρ:od n ρ=true):∀{c c':C} {y:Value},c.le ρ c'→aJ w S φ c y→aJ w S (φρ ρ φ) c' y∧c'.inU (· <n):=by
 intro c c' y h hr
 cases c' with
 |un=>exact⟨by simp[aJ],by simp[C.inU]⟩
 |r x=>simp only[C.le] at h;subst h;exact⟨by simpa [aJ] using hr,by simp[C.inU]⟩
 |n k=>simp only[C.le] at h;subst h;exact⟨by simpa [aJ] using hr,by simp[C.inU]⟩
 |f id k lo m=>
  simp only[C.le] at h
  split at h
  ·rename_i j hj
   subst h
   refine⟨?_,gY ρ hρ _ (j8 ρ id _ hj)⟩
   simp only[aJ,φρ,hj] at hr ⊢
   exact hr
  ·rename_i hj
   obtain⟨⟨k',rfl⟩,rfl,rfl⟩:=h
   refine⟨?_,gY ρ hρ _ (j8 ρ id _ hj)⟩
   simp only[aJ,φρ,hj] at hr ⊢
   exact .inl ⟨trivial,trivial,trivial,hr⟩
  ·cases h
 |m id=>
  simp only[C.le] at h
  split at h
  ·rename_i j hj
   subst h
   refine⟨?_,gY ρ hρ _ (j8 ρ id _ hj)⟩
   simp only[aJ,φρ,hj] at hr ⊢
   exact hr
  ·cases h
 |p id k i off=>
  simp only[C.le] at h
  split at h
  ·rename_i j hj
   subst h
   refine⟨?_,gY ρ hρ _ (j8 ρ id _ hj)⟩
   simp only[aJ,φρ,hj] at hr ⊢
   exact hr
  ·cases h
theorem Cs.le_spec (hρ:od n ρ=true):∀{cs cs':List C} {ys:List Value},Cs.le ρ cs cs'→aE w S φ cs ys→aE w S (φρ ρ φ) cs' ys∧Cs.inU (· <n) cs'∧cs'.length=cs.length
 |[],[],ys,_,hr=>⟨hr,trivial,rfl⟩
 |c::cs,c'::cs',ys,h,hr=>by
  obtain⟨z,zs,rfl,h1,h2⟩:=hr
  obtain⟨a1,a2⟩:=C.le_spec hρ h.1 h1
  obtain⟨b1,b2,b3⟩:=Cs.le_spec hρ h.2 h2
  exact⟨⟨z,zs,rfl,a1,b1⟩,⟨a2,b2⟩,by simp[b3]⟩
 |[],_::_,_,h,_=>h.elim
 |_::_,[],_,h,_=>h.elim
theorem V.le_spec (hρ:od n ρ=true) {v v':V} {y:Value} (h:v.le ρ v') (hr:vRep w S φ v y):vRep w S (φρ ρ φ) v' y∧v'.inU (· <n):=by
 cases v' with
 |c x'=>
  simp only[V.le] at h
  split at h
  ·exact⟨by simp[vRep,aJ],by simp[V.inU,C.inU]⟩
  ·obtain⟨x,rfl,hx⟩:=h
   simp only[vRep,V.inU] at hr ⊢
   exact C.le_spec hρ hx hr
 |g cs'=>
  obtain⟨cs,rfl,hx⟩:=h
  simp only[vRep,V.inU] at hr ⊢
  obtain⟨ys,rfl,h2⟩:=hr
  obtain⟨a1,a2,_⟩:=Cs.le_spec hρ hx h2
  exact⟨⟨ys,rfl,a1⟩,a2⟩
 |q cs=>simp only[V.le] at h;subst h;exact⟨by simpa [vRep] using hr,by simp[V.inU]⟩
 |u vs=>exact h.elim
 |ifc t x=>exact h.elim
 |clo g cs=>exact h.elim
theorem vM:∀(l:List (Nat×V)) (t:Nat),FL ρ st l→aM (V.c .un) l t=.c .un∨(st.get t).le ρ (aM (V.c .un) l t)
 |[],t,_=>.inl rfl
 |(i,v)::r,t,h=>by
  simp only[aM]
  split
  ·rename_i ht;subst ht;exact .inr h.1
  ·exact vM r t h.2
theorem nY:∀(l:List (Nat×Option Ent)) (id:Nat) (e':Ent),Fj ρ st l→aM none l id=some e'→(match rn ρ id with
 |some (some j)=>∃e,st.ent j=some e∧e.le ρ e'
 |some none=>∃k,e'=.arr k []
 |none=>False)
 |[],id,e',_,h=>by simp[aM] at h
 |(i,some e0)::r,id,e',hl,h=>by
  simp only[aM] at h
  split at h
  ·rename_i hi;subst hi;cases h;exact hl.1
  ·exact nY r id e' hl.2 h
 |(i,none)::r,id,e',hl,h=>hl.elim
def uo (ρ:Rho):List Nat→Bool
 |[]=>true
 |i::r=>(match rn ρ i with
  |some (some j)=>Nat.beq j i
  |_=>false)&&uo ρ r
theorem pO:∀(pn:List Nat),uo ρ pn=true→∀i∈pn,rn ρ i=some (some i)
 |[],_,i,hi=>by cases hi
 |j::r,h,i,hi=>by
  simp only[uo,Bool.and_eq_true] at h
  rcases List.mem_cons.1 hi with rfl|hi
  ·have:=h.1
   split at this
   ·rename_i k hk;rw[hk,Nat.eq_of_beq_eq_true this]
   ·cases this
  ·exact pO r h.2 i hi
theorem Wk.of {pn:List Nat} (ρ:Rho) (hρ:od n ρ=true) (hp:uo ρ pn=true) (hs:FL ρ st st'.sl) (he:Fj ρ st st'.tab):Wk pn nx st n st':=by
 rintro M w0 N a w hpn ⟨φ,S,fp,h⟩
 refine⟨φρ ρ φ,S,fpρ ρ fp,⟨h.defers,h.size,h.os,h.tape,h.output,h.grow,h.old,h.sIn,h.sLt,fun id e' hh=>?_,fun id e id' e' h1 h2 hne b hb=>?_,fun t=>?_,fun p hp'=>?_⟩⟩
 ·have:=nY _ id e' he hh
  split at this
  ·rename_i j hj
   obtain⟨e,hej,hle⟩:=this
   obtain⟨u1,u2,u3,u4,u5⟩:=h.ents j e hej
   have e1:φρ ρ φ id=φ j:=by simp only[φρ,hj]
   have e2:fpρ ρ fp id=fp j:=by simp only[fpρ,hj]
   rw[e1,e2]
   refine⟨gY ρ hρ _ (j8 ρ id _ hj),?_,?_,u4,u5⟩
   ·cases e' with
    |arr k es=>trivial
    |mi l=>trivial
    |ms l=>trivial
    |opn k es i cs'=>
     obtain⟨cs,rfl,hcs⟩:=hle
     obtain⟨_,ty,x1,xs,x2,f1,f2,v1,v2,v3,v4,v5⟩:=u3
     exact(Cs.le_spec hρ hcs v3.2).2.1
    |foc k pr cs' po=>
     obtain⟨cs,rfl,hcs⟩:=hle
     obtain⟨ty,x1,xs,x2,f1,f2,v1,v2,v3,v4,v5⟩:=u3
     exact(Cs.le_spec hρ hcs v3.2).2.1
   ·cases e' with
    |arr k es=>simp only[Ent.le] at hle;subst hle;exact u3
    |opn k es i cs'=>
     obtain⟨cs,rfl,hcs⟩:=hle
     obtain⟨hi,ty,x1,xs,x2,f1,f2,v1,v2,v3,v4,v5⟩:=u3
     obtain⟨b1,b2,b3⟩:=Cs.le_spec hρ hcs v3.2
     exact⟨hi,ty,x1,xs,x2,f1,f2,v1,v2,⟨by rw[b3];exact v3.1,b1⟩,v4,v5⟩
    |mi l=>simp only[Ent.le] at hle;subst hle;exact u3
    |ms l=>simp only[Ent.le] at hle;subst hle;exact u3
    |foc k pr cs' po=>
     obtain⟨cs,rfl,hcs⟩:=hle
     obtain⟨ty,x1,xs,x2,f1,f2,v1,v2,v3,v4,v5⟩:=u3
     obtain⟨b1,b2,b3⟩:=Cs.le_spec hρ hcs v3.2
     exact⟨ty,x1,xs,x2,f1,f2,v1,v2,⟨by rw[b3];exact v3.1,b1⟩,v4,v5⟩
  ·rename_i hj
   obtain⟨k,rfl⟩:=this
   have e1:φρ ρ φ id=.slice none 0 0:=by simp only[φρ,hj]
   have e2:fpρ ρ fp id=[]:=by simp only[fpρ,hj]
   rw[e1,e2]
   refine⟨gY ρ hρ _ (j8 ρ id _ hj),trivial,?_,by simp,by simp⟩
   exact⟨0,[],[],⟨by simp,.inl ⟨rfl,rfl⟩⟩,by simp[aw],by simp[Value.ownBlock]⟩
  ·cases this
 ·have t1:=nY _ id e he h1
  have t2:=nY _ id' e' he h2
  simp only[fpρ] at hb ⊢
  split at t1
  ·rename_i j hj
   rw[hj] at hb
   simp only at hb
   split at t2
   ·rename_i j' hj'
    rw[hj']
    simp only
    obtain⟨e1,he1,_⟩:=t1
    obtain⟨e2,he2,_⟩:=t2
    refine h.disj j e1 j' e2 he1 he2 (fun hjj=>?_) b hb
    subst hjj
    exact hne (tc ρ hρ id id' j hj hj')
   ·rename_i hj'
    rw[hj']
    simp
   ·cases t2
  ·rename_i hj
   rw[hj] at hb
   simp at hb
  ·cases t1
 ·obtain⟨g1,g2,g3⟩:=h.slots t
  rcases vM st'.sl t hs with hq|hq
  ·have:st'.get t=.c .un:=hq
   rw[this]
   exact⟨by simp[V.inU,C.inU],.inr rfl,by simp[vRep,aJ]⟩
  ·have hq:(st.get t).le ρ (st'.get t):=hq
   obtain⟨b1,b2⟩:=V.le_spec hρ hq g3
   refine⟨b2,?_,b1⟩
   rcases g2 with g2|g2
   ·exact .inl g2
   ·right
    rw[g2] at hq
    cases hv:st'.get t with
    |c x'=>
     rw[hv] at hq
     cases x' with
     |un=>rfl
     |r x=>obtain⟨x0,h1,h2⟩:=hq;cases h1;cases h2
     |n k=>obtain⟨x0,h1,h2⟩:=hq;cases h1;cases h2
     |f id k lo m=>
      obtain⟨x0,h1,h2⟩:=hq
      cases h1
      simp only[C.le] at h2
      split at h2
      ·cases h2
      ·obtain⟨⟨_,h3⟩,_⟩:=h2;cases h3
      ·cases h2
     |p id k i off=>
      obtain⟨x0,h1,h2⟩:=hq
      cases h1
      simp only[C.le] at h2
      split at h2
      ·cases h2
      ·cases h2
     |m id=>
      obtain⟨x0,h1,h2⟩:=hq
      cases h1
      simp only[C.le] at h2
      split at h2
      ·cases h2
      ·cases h2
    |g cs=>rw[hv] at hq;obtain⟨_,h1,_⟩:=hq;cases h1
    |q cs=>rw[hv] at hq;cases hq
    |u vs=>rw[hv] at hq;exact hq.elim
    |ifc t x=>rw[hv] at hq;exact hq.elim
    |clo g cs=>rw[hv] at hq;exact hq.elim
 ·have hr:=pO pn hp p.1 (hpn p hp')
  exact⟨by simp only[φρ,hr];exact(h.pin p hp').1,gY ρ hρ _ (j8 ρ _ _ hr)⟩
end
end Go.Vs
namespace Go.Vs
open Go.RowKit
def st0:St:={sl:=[],tab:=[]}
def AM.v0 (g:G):AM→V
 |.m d=>.c (sa g 0 st0 d).1
 |.g ds=>.g (gNames g 0 st0 ds).1
 |.p ds=>.c (.p ds.length ds.length 0 0)
def AM.tab (g:G):AM→List (Nat×Option Ent)
 |.m d=>(sa g 0 st0 d).2.tab
 |.g ds=>(gNames g 0 st0 ds).2.tab
 |.p ds=>(ds.length,some (.foc ds.length [] (gNames g 0 st0 ds).1 []))::(gNames g 0 st0 ds).2.tab
def AM.pins:AM→List Nat
 |.m _=>[0]
 |.g ds=>List.range ds.length
 |.p ds=>[ds.length]
def AM.nx:AM→Nat
 |.m _=>1
 |.g ds=>ds.length
 |.p ds=>ds.length+1
def Cr (g:G) (a0:AM) (as:List A):St:={sl:=(0,a0.v0 g)::fu 1 as,tab:=a0.tab g}
def AC (st:St) (rvs:List RV):Option (X×St):=
 match lv st rvs with
 |some [v]=>u9 st v
 |some vs=>(nF st vs).map fun p=>(.u p.1,p.2)
 |none=>none
def zE (st:St) (rvs:List RV):Option (X×St×Cn):=
 match lv st rvs with
 |some [v]=>Ck st v
 |some vs=>match te st vs with
  |some (xs,s,p)=>some (.u xs,s,p)
  |none=>none
 |none=>none
theorem yk {st s:St} {rvs:List RV} {x:X} {p:Cn} (h:zE st rvs=some (x,s,p)) (hp:Sd p):AC st rvs=some (x,s):=by
 unfold zE at h
 unfold AC
 split at h
 ·exact oK h hp
 ·rename_i vs hne hv
  split at h
  ·rename_i hh
   cases h
   simp[mV hh hp]
  ·cases h
 ·cases h
inductive ARetM (c:Cn) (x y:X) (a b:AM):Prop
 |mk (hc:Sd c) (h:y=x) (h2:b=a):ARetM c x y a b
def GF (rvs:List RV) (v0:V) (x:X) (a1:AM):E→Nat→St→Prop:=fun e _ st=>match e with
 |.exit _=>False
 |_=>match zE st rvs with
  |some (y,s,c)=>match sY s v0 with
   |some (b,_,c2)=>ARetM (oZ c c2) x y a1 b
   |none=>False
  |none=>False
theorem tJ {rvs:List RV} {v0:V} {x:X} {a1:AM} {st:St} (h:(match zE st rvs with
 |some (y,s,c)=>match sY s v0 with
  |some (b,_,c2)=>ARetM (oZ c c2) x y a1 b
  |none=>False
 |none=>False)):∃s s2,AC st rvs=some (x,s)∧jA s v0=some (a1,s2):=by
 split at h
 ·rename_i y s c hy
  split at h
  ·rename_i b s2 c2 hb
   obtain⟨h1,h2,h3⟩:=h
   subst h2
   subst h3
   exact⟨s,s2,yk hy (bE h1).1,ky hb (bE h1).2⟩
  ·cases h
 ·cases h
section
variable {φ:Nat→Value} {S:Nat→Prop} {fp:Nat→List Nat} {M:MS} {w0:World} {U:Nat→Prop} {N:Nat} {st st':St} {a:Act} {w w':World} {P:Program}
theorem AG {fn:Func} {rvs:List RV} {x:X} {s:St} (h:SimX φ S fp M w0 U N st a w) (hf:kq P fn.results.toList rvs=true) (hr:AC st rvs=some (x,s)):
 ∃(y:Value) (F:List Nat),(results fn a.tmps).run P w=.ok y w∧d9 w S x y F∧F.Nodup∧(∀b∈F,(∃i e,st.ent i=some e∧b∈fp i)∧∀i e,s.ent i=some e→b∉fp i)∧SimX φ S fp M w0 U N s a w∧(∀i e,s.ent i=some e→st.ent i=some e):=by
 unfold AC at hr
 have hres:∀ys:List Value,(fn.results.toList.mapM (rA a)).run P w=.ok ys w→(results fn a.tmps).run P w=.ok (if hh:ys.toArray.size=1 then ys.toArray[0] else .tuple ys.toArray) w:=by
  intro ys hys
  have hdef:results fn a.tmps=(do
   let vs←fn.results.mapM (rA a)
   Pure.pure (if h:vs.size=1 then vs[0] else .tuple vs)):=rfl
  rw[hdef,Array.mapM_eq_mapM_toList]
  simp[hys]
 split at hr
 ·rename_i v hg
  obtain⟨ys,e1,e2⟩:=iU h _ _ _ hf hg
  simp only[a8] at e2
  obtain⟨z,zs,rfl,hz,rfl⟩:=e2
  obtain⟨F,a1,a2,a3,a4,a5⟩:=oF h hz hr
  refine⟨z,F,?_,a1,a2,a3,a4,a5⟩
  rw[hres _ e1]
  simp
 ·rename_i vs hne hg
  simp only[Option.map_eq_some_iff] at hr
  obtain⟨⟨xs,s'⟩,hx,hh⟩:=hr
  cases hh
  obtain⟨ys,e1,e2⟩:=iU h _ _ _ hf hg
  obtain⟨F,a1,a2,a3,a4,a5⟩:=nk vs xs ys h e2 hx
  refine⟨.tuple ys.toArray,F,?_,by simp only[d9];exact⟨ys,rfl,a1⟩,a2,a3,a4,a5⟩
  rw[hres _ e1]
  have hl:ys.length≠1:=by
   intro hl
   match ys,hl with
   |[y],_=>
    cases vs with
    |nil=>simp[a8] at e2
    |cons v vs=>
     simp only[a8] at e2
     obtain⟨z,zs,h1,h2,h3⟩:=e2
     cases h1
     cases vs with
     |nil=>exact hne v rfl
     |cons v2 vs=>simp[a8] at h3
  simp[hl]
 ·cases hr
theorem SimX.addRo (h:SimX φ S fp M w0 U N st a w) {S0:Nat→Prop} (h1:∀b,S0 b→M.ro b∧b<w0.heap.size∧b∉M):SimX φ (fun b=>S b∨S0 b) fp M w0 U N st a w:=by
 refine⟨h.defers,h.size,h.os,h.tape,h.output,h.grow,h.old,fun b hb hlt=>hb.elim (fun x=>h.sIn b x hlt) (fun x=>.inl (h1 b x).1),fun b hb=>hb.elim (h.sLt b) (fun x=>Nat.lt_of_lt_of_le (h1 b x).2.1 h.grow),fun id e he=>?_,h.disj,fun t=>?_,h.pin⟩
 ·obtain⟨u1,u2,u3,u4,u5⟩:=h.ents id e he
  refine⟨u1,u2,dU (U:=U) (fun _ hb=>.inl hb) (fun _ _=>rfl) (fun _ _=>rfl) e _ u2 (fun _ _=>rfl) u3,u4,fun b hb=>⟨(u5 b hb).1,(u5 b hb).2.1,fun hs=>hs.elim (u5 b hb).2.2 (fun hs=>?_)⟩⟩
  rcases(u5 b hb).1 with q|q
  ·have:=(h1 b hs).2.1;omega
  ·exact(h1 b hs).2.2 q
 ·obtain⟨u1,u2,u3⟩:=h.slots t
  exact⟨u1,u2,dg (U:=U) (fun _ hb=>.inl hb) (fun _ _=>rfl) (fun _ _=>rfl) _ _ u1 u3⟩
theorem SimX.pinned (h:SimX φ S fp ⟨M.bl,[],M.ro⟩ w0 U N st a w) (l:List (Nat×Value)) (hl:∀p∈l,φ p.1=p.2∧U p.1) (sl:List (Nat×V)) (hsl:∀t,(aM (V.c .un) sl t).inU U∧(t<N∨aM (V.c .un) sl t=.c .un)∧vRep w S φ (aM (V.c .un) sl t) (a.tmps.getD t undef)):
 SimX φ S fp ⟨M.bl,l,M.ro⟩ w0 U N {st with sl:=sl} a w:=
 ⟨h.defers,h.size,h.os,h.tape,h.output,h.grow,h.old,h.sIn,h.sLt,h.ents,h.disj,hsl,hl⟩
theorem xV {a0:AM} {S0:Nat→Prop} {y0 hd:Value} {F:List Nat} {vs:List Value} {as:List A} (hS0:∀b,S0 b→b<w.heap.size∧b∉F) (ha:gr w S0 a0 y0 hd F) (hvs:e7 w S0 as vs) (hF:F.Nodup) (hFl:∀b∈F,b<w.heap.size) (hl:vs.length+1≤N):
 ∃(φ:Nat→Value) (fp:Nat→List Nat),SimX φ S0 fp ⟨F,a0.pins.map fun i=>(i,φ i),S0⟩ w (· <a0.nx) N (Cr G.real a0 as) {tmps:=(y0::vs).toArray++Array.replicate (N-(y0::vs).toArray.size) undef,defers:=[]} w∧vRep w S0 φ (a0.v0 G.real) y0∧(a0.v0 G.real).inU (· ∈a0.pins)∧(∀ds,a0=.p ds→sh φ (a0.v0 G.real)=hd):=by
 generalize hact:({tmps:=(y0::vs).toArray++Array.replicate (N-(y0::vs).toArray.size) undef,defers:=[]}:Act)=act
 have hsz:act.tmps.size=N:=by subst hact;simp;omega
 have hdf:act.defers=[]:=by subst hact;rfl
 have hbase:SimX (fun _=>undef) S0 (fun _=>[]) ⟨F,[],S0⟩ w (fun _=>False) N st0 act w:=by
  refine⟨hdf,hsz,rfl,rfl,rfl,Nat.le_refl _,fun _ _ _=>rfl,fun b hb _=>.inl hb,fun b hb=>(hS0 b hb).1,fun id e he=>by simp[st0,St.ent,aM] at he,fun id e id' e' he=>by simp[st0,St.ent,aM] at he,fun t=>?_,fun p hp=>by cases hp⟩
  have:st0.get t=.c .un:=rfl
  rw[this]
  exact⟨by simp[V.inU,C.inU],.inr rfl,by simp[vRep,aJ]⟩
 have hfree:∀b∈F,bd S0 (fun _=>[]) ⟨F,[],S0⟩ w st0 w b:=fun b hb=>⟨.inr hb,hFl b hb,fun hs=>(hS0 b hs).2 hb,fun i e he=>by simp[st0,St.ent,aM] at he⟩
 have key:∃(φ:Nat→Value) (fp:Nat→List Nat),SimX φ S0 fp ⟨F,[],S0⟩ w (· <a0.nx) N {sl:=[],tab:=a0.tab G.real} act w∧vRep w S0 φ (a0.v0 G.real) y0∧(a0.v0 G.real).inU (· <a0.nx)∧(a0.v0 G.real).inU (· ∈a0.pins)∧(∀i∈a0.pins,i<a0.nx)∧(∀ds,a0=.p ds→sh φ (a0.v0 G.real)=hd):=by
  cases a0 with
  |m d=>
   simp only[gr] at ha
   obtain⟨φ1,fp1,q1,q2,q3,q4,q5⟩:=mQ hbase (id:=0) (fun h=>h) ha hF hfree
   refine⟨φ1,fp1,?_,?_,?_,?_,by simp[AM.pins,AM.nx],fun ds h=>by cases h⟩
   ·have:=q1.mono (U':=(· <(AM.m d).nx)) (fun i hi=>by
     rcases hi with hi|rfl
     ·exact hi.elim
     ·simp[AM.nx])
    have e:({sl:=[],tab:=(AM.m d).tab G.real}:St)=(gq 0 st0 d).2:=by
     simp only[AM.tab,jW G.real_ok]
     cases d<;>rfl
    rw[e]
    exact this
   ·simp only[AM.v0,jW G.real_ok,vRep];exact q4
   ·simp only[AM.v0,jW G.real_ok,V.inU]
    exact iO (fun i hi=>by
     rcases hi with hi|rfl
     ·exact hi.elim
     ·simp[AM.nx]) _ q3
   ·simp only[AM.v0,jW G.real_ok,V.inU]
    exact iO (fun i hi=>by
     rcases hi with hi|rfl
     ·exact hi.elim
     ·simp[AM.pins]) _ q3
  |g ds=>
   simp only[gr] at ha
   obtain⟨ys,hy,ha⟩:=ha
   obtain⟨φ1,fp1,q1,q2,q3,q4,q5⟩:=eL ds 0 hbase (fun c _ _ h=>h) ha hF hfree
   refine⟨φ1,fp1,?_,?_,?_,?_,by simp[AM.pins,AM.nx],fun ds h=>by cases h⟩
   ·have:=q1.mono (U':=(· <(AM.g ds).nx)) (fun i hi=>by
     rcases hi with hi|hi
     ·exact hi.elim
     ·simp only[AM.nx];omega)
    have e:∀(ds:List D) (n:Nat) (s:St),(aU n s ds).2.sl=s.sl:=by
     intro ds
     induction ds with
     |nil=>intro n s;rfl
     |cons d ds ih=>intro n s;simp only[aU];rw[ih];cases d<;>rfl
    have e:({sl:=[],tab:=(AM.g ds).tab G.real}:St)=(aU 0 st0 ds).2:=by
     simp only[AM.tab,ej G.real_ok]
     have:=e ds 0 st0
     generalize aU 0 st0 ds=p at*
     obtain⟨c,s⟩:=p
     cases s
     simp only at this
     subst this
     rfl
    rw[e]
    exact this
   ·simp only[AM.v0,ej G.real_ok,vRep];exact⟨ys,hy,q4⟩
   ·simp only[AM.v0,ej G.real_ok,V.inU]
    exact eQ (fun i hi=>by
     rcases hi with hi|hi
     ·exact hi.elim
     ·simp only[AM.nx];omega) _ q3
   ·simp only[AM.v0,ej G.real_ok,V.inU]
    exact eQ (fun i hi=>by
     rcases hi with hi|hi
     ·exact hi.elim
     ·simp only[AM.pins,List.mem_range];omega) _ q3
  |p ds=>
   simp only[gr] at ha
   obtain⟨b,Nn,cap,ty,xs,fps,hHd,hy,p1,p2,rfl⟩:=ha
   have hnd:=List.nodup_append.1 hF
   obtain⟨φ1,fp1,q1,q2,q3,q4,q5⟩:=eL ds 0 hbase (fun c _ _ h=>h) p2 hnd.2.1 (fun b hb=>hfree b (by simp[hb]))
   have hnone:(aU 0 st0 ds).2.ent ds.length=none:=by
    have:∀(ds:List D) (id n:Nat) (s:St),¬(n≤id∧id<n+ds.length)→(aU n s ds).2.ent id=s.ent id:=by
     intro ds
     induction ds with
     |nil=>intro id n s _;rfl
     |cons d ds ih=>
      intro id n s hh
      simp only[aU]
      rw[ih _ _ _ (by simp at hh;omega)]
      cases d with
      |r x=>rfl
      |o k es=>simp only[gq];rw[bF,if_neg (by simp at hh;omega)]
    rw[this ds _ _ _ (by omega)]
    rfl
   have hcl:=aO _ _ q4
   have hdl:=aR _ _ _ p2
   have hU1:∀i,(False∨(0≤i∧i<0+ds.length))→upd φ1 ds.length hd i=φ1 i:=fun i hi=>by
    rcases hi with hi|hi
    ·exact hi.elim
    ·exact bW _ _ (by omega)
   have hrep:entRep w S0 (upd φ1 ds.length hd) hd (.foc ds.length [] (aU 0 st0 ds).1 []) hd.ownBlock.toList:=by
    refine⟨ty,[],xs,[],[],[],?_,by simp[aw],⟨by omega,?_⟩,by simp[aw],by simp⟩
    ·simpa using p1
    ·exact dF (U:=fun i=>False∨(0≤i∧i<0+ds.length)) (fun _ hb=>hb) (fun _ _=>rfl) hU1 _ _ q3 q4
   have hp:=q1.put_ent (w':=w) (id:=ds.length) (e:=.foc ds.length [] (aU 0 st0 ds).1 []) (hd:=hd) (F:=hd.ownBlock.toList) (S':=S0) hU1 hnone rfl rfl rfl (Nat.le_refl _) (fun _ _ _=>rfl) (fun _ hb=>hb) (fun _ hb=>.inl hb) q3 hrep (by cases hd.ownBlock<;>simp) (fun b hb=>by
    have hf:=q5 b (hfree b (by simp at hb ⊢;exact .inl hb)) (fun hm=>hnd.2.2 b hb b hm rfl)
    exact⟨hf.2.2.1,.inl hf⟩)
   have hh:=hp.mono (U':=(· <(AM.p ds).nx)) (fun i hi=>by
    show i<_
    simp only[AM.nx]
    rcases hi with(hi|hi)|hi
    ·exact hi.elim
    ·omega
    ·omega)
   refine⟨upd φ1 ds.length hd,upd fp1 ds.length hd.ownBlock.toList,?_,?_,?_,?_,by simp[AM.pins,AM.nx],fun ds' h=>?_⟩
   ·have e1:∀(ds:List D) (n:Nat) (s:St),(aU n s ds).2.sl=s.sl:=by
     intro ds
     induction ds with
     |nil=>intro n s;rfl
     |cons d ds ih=>intro n s;simp only[aU];rw[ih];cases d<;>rfl
    have e:({sl:=[],tab:=(AM.p ds).tab G.real}:St)=(aU 0 st0 ds).2.set ds.length (.foc ds.length [] (aU 0 st0 ds).1 []):=by
     simp only[AM.tab,ej G.real_ok]
     have:=e1 ds 0 st0
     generalize aU 0 st0 ds=p at*
     obtain⟨c,s⟩:=p
     cases s
     simp only at this
     subst this
     rfl
    rw[e]
    exact hh
   ·simp only[AM.v0,vRep,aJ,cF]
    exact⟨b,Nn,cap,hHd,by rw[hy];simp⟩
   ·simp[AM.v0,V.inU,C.inU,AM.nx]
   ·simp[AM.v0,V.inU,C.inU,AM.pins]
   ·cases h
    simp[AM.v0,sh]
 obtain⟨φ,fp,k1,k2,k3,k4,k5,k6⟩:=key
 refine⟨φ,fp,?_,k2,k4,k6⟩
 refine SimX.pinned (M:=⟨F,[],S0⟩) k1 _ (fun p hp=>?_) _ (fun t=>?_)
 ·simp only[List.mem_map] at hp
  obtain⟨i,hi,rfl⟩:=hp
  exact⟨rfl,k5 i hi⟩
 ·have hes:=lx (w:=w) (S:=S0) (φ:=φ) (U:=(· <a0.nx)) (Array.replicate (N-(y0::vs).toArray.size) undef) as 1 [y0] vs rfl hvs t
  simp only[aM]
  by_cases ht:t=0
  ·subst ht
   rw[if_pos rfl]
   refine⟨k3,.inl (by omega),?_⟩
   have:act.tmps.getD 0 undef=y0:=by subst hact;simp[Array.getD_eq_getD_getElem?,Array.getElem?_append]
   rw[this]
   exact k2
  ·rw[if_neg ht]
   subst hact
   exact⟨hes.1,hes.2.1.imp (fun h=>by omega) (fun h=>h),by simpa using hes.2.2⟩
theorem gO {f:FuncId} {fn:Func} {c:Code} {j:J} {a0 a1:AM} {as:List A} {rvs:List RV} {x:X} (hf:P.funcs[f]?=some fn) (hb:fn.body=some c) (hfit:aP P fn.ntmps c j=true) (hn:as.length+1≤fn.ntmps) (hrv:kq P fn.results.toList rvs=true) (hm:P.follows .mixedOrders=true)
 (h:∀(g:G) (F:CF),g.Ok→(∀f c x,FnU P f c x→F f c x)→awp g F a0.pins j (GF rvs (a0.v0 g) x a1) a0.nx (Cr g a0 as)):FnM P f a0 as x a1:=by
 intro w S0 y0 hd vs F hS0 ha hvs hF hFl
 have hlen:∀(as:List A) (vs:List Value),e7 w S0 as vs→vs.length=as.length:=by
  intro as
  induction as with
  |nil=>intro vs h;simp only[e7] at h;simp[h]
  |cons x as ih=>intro vs h;obtain⟨z,zs,rfl,_,h3⟩:=h;simp[ih zs h3]
 have hl:=hlen as vs hvs
 refine calls_of_wp hf hb ?_
 obtain⟨φ0,fp0,hsim,hv0,hpin0,hhd⟩:=xV (N:=fn.ntmps) hS0 ha hvs hF hFl (by omega)
 refine wp_mono (dL (pn:=a0.pins) (fun p hp=>by
  simp only[List.mem_map] at hp
  obtain⟨i,hi,rfl⟩:=hp
  exact hi) hm G.real_ok (fun _ _ _ h=>h) j c _ a0.nx hfit ⟨_,_,_,hsim⟩ (h G.real (FnU P) G.real_ok (fun _ _ _ h=>h))) ?_
 rintro e a' w' ⟨e',nx,st',rfl,hq,φ,S,fp,hs⟩
 have fin:(∃s s2,AC st' rvs=some (x,s)∧jA s (a0.v0 G.real)=some (a1,s2))→a'.defers=[]∧∃v,(results fn a'.tmps).run P w'=.ok v w'∧∃y G F' S',Ending.returned v=.returned y∧d9 w' (fun b=>S0 b∨S' b) x y G∧gr w' (fun b=>S0 b∨S' b) a1 y0 hd F'∧LeftM w w' F G F' S':=by
  rintro⟨s,s2,hr,hmu⟩
  have hs1:=hs.addRo (S0:=S0) (fun b hb=>⟨hb,(hS0 b hb).1,(hS0 b hb).2⟩)
  have hold:∀b,S0 b→w'.heap[b]?=w.heap[b]?:=fun b hb=>hs.old b (hS0 b hb).1 (hS0 b hb).2
  have hφ:∀i,i∈a0.pins→φ i=φ0 i:=fun i hi=>(hs.pin (i,φ0 i) (List.mem_map_of_mem hi)).1
  have hv:vRep w' (fun b=>S b∨S0 b) φ (a0.v0 G.real) y0:=dg (U:=(· ∈a0.pins)) (fun _ hb=>.inr hb) hold hφ _ _ hpin0 hv0
  obtain⟨y,G,r1,r2,r3,r4,r5,r6⟩:=AG hs1 hrv hr
  obtain⟨F',m1,m2,m3,m4,_,m6⟩:=oY r5 hv hmu
  have hhd':gr w' (fun b=>S b∨S0 b) a1 y0 hd F':=by
   cases a0 with
   |p ds=>
    have e0:=hhd ds rfl
    simp only[AM.v0,sh] at e0 m1
    have:=hφ ds.length (by simp[AM.pins])
    rw[this,e0] at m1
    exact m1
   |m d=>
    have:∀ds,a1≠.p ds:=fun ds hh=>by
     subst hh
     simp only[AM.v0] at hmu
     cases d<;>simp only[sa,jA] at hmu<;>split at hmu<;>simp at hmu
    cases a1 with
    |p ds=>exact absurd rfl (this ds)
    |m d=>exact m1
    |g ds=>exact m1
   |g ds0=>
    have:∀ds,a1≠.p ds:=fun ds hh=>by
     subst hh
     simp only[AM.v0,jA] at hmu
     split at hmu<;>simp at hmu
    cases a1 with
    |p ds=>exact absurd rfl (this ds)
    |m d=>exact m1
    |g ds=>exact m1
  have hsub:∀b,(S b∨S0 b)→S0 b∨(S b∧(b∈F∨w.heap.size≤b)):=fun b hb=>by
   rcases hb with hb|hb
   ·by_cases hlt:b<w.heap.size
    ·rcases hs.sIn b hb hlt with h0|h0
     ·exact .inl h0
     ·exact .inr ⟨hb,.inl h0⟩
    ·exact .inr ⟨hb,.inr (by omega)⟩
   ·exact .inl hb
  have hent:∀i e,st'.ent i=some e→∀b∈fp i,(b∈F∨w.heap.size≤b)∧b<w'.heap.size∧¬(S b∧(b∈F∨w.heap.size≤b)):=fun i e he b hb=>by
   obtain⟨q1,q2,q3⟩:=(hs.ents i e he).2.2.2.2 b hb
   exact⟨q1.symm,q2,fun hh=>q3 hh.1⟩
  refine⟨hs.defers,y,r1,y,G,F',fun b=>S b∧(b∈F∨w.heap.size≤b),rfl,oR hsub x y G r2,?_,⟨hs.os,hs.tape,hs.output,hs.grow,fun b hb hn=>hs.old b hb hn,?_,fun b hb=>?_,fun b hb=>⟨hb.2,hs.sLt b hb.1⟩⟩⟩
  ·cases a1 with
   |m d=>simp only[gr] at hhd' ⊢;exact lZ hsub (fun _ _=>rfl) d y0 F' (fun _ _=>rfl) hhd'
   |g ds=>
    simp only[gr] at hhd' ⊢
    obtain⟨ys,e1,e2⟩:=hhd'
    exact⟨ys,e1,cR hsub (fun _ _=>rfl) ds ys F' (fun _ _=>rfl) e2⟩
   |p ds=>
    simp only[gr] at hhd' ⊢
    obtain⟨b,Nn,cap,ty,xs,fps,e1,e2,e3,e4,e5⟩:=hhd'
    exact⟨b,Nn,cap,ty,xs,fps,e1,e2,e3,cR hsub (fun _ _=>rfl) ds xs fps (fun _ _=>rfl) e4,e5⟩
  ·refine List.nodup_append.2 ⟨m2,r3,fun b hb b' hb' hbb=>?_⟩
   subst hbb
   obtain⟨⟨i,e,hi,hm⟩,_⟩:=m3 b hb
   exact(r4 b hb').2 i e hi hm
  ·rcases List.mem_append.1 hb with hb|hb
   ·obtain⟨⟨i,e,hi,hm⟩,_⟩:=m3 b hb
    exact hent i e (r6 i e hi) b hm
   ·obtain⟨⟨i,e,hi,hm⟩,_⟩:=r4 b hb
    exact hent i e hi b hm
 cases e' with
 |norm=>exact fin (tJ hq)
 |exit id=>exact hq.elim
 |ret=>exact fin (tJ hq)
end
end Go.Vs
namespace Go.Vs
open Go.IntWalk
set_option linter.unusedVariables false
def gd {α:Type} (c:Prop) [Decidable c] (k:Option α):Option α:=if c then k else none
def gt {α β:Type} (l:List β) (i:Nat) (k:β→Option α):Option α:=match l[i]? with
 |some x=>k x
 |none=>none
def cl {α β:Type} (o:Option β) (k:β→Option α):Option α:=match o with
 |some x=>k x
 |none=>none
def lP {α β:Type} (a:α) (k:α→β):β:=k a
def br {γ:Type} (b:Bool) (x y:γ):γ:=match b with
 |true=>x
 |false=>y
inductive LR (ρ β:Type) where
 |ret (r:ρ)
 |out (y:β)
def lr {ρ β:Type} (o:LR ρ β) (k:β→Option ρ):Option ρ:=match o with
 |.ret r=>some r
 |.out y=>k y
def lrL {ρ β γ:Type} (o:LR ρ β) (k:β→Option (LR ρ γ)):Option (LR ρ γ):=match o with
 |.ret r=>some (.ret r)
 |.out y=>k y
def lrp {ρ β:Type} (o:LR ρ β) (k:β→ρ):ρ:=match o with
 |.ret r=>r
 |.out y=>k y
def aZ {ρ β γ:Type} (o:LR ρ β) (k:β→LR ρ γ):LR ρ γ:=match o with
 |.ret r=>.ret r
 |.out y=>k y
def aA (i b:Int):Nat:=(b-i).toNat
def dt (i b:Int):Nat:=(b+1-i).toNat
theorem aj {α:Type} {c:Prop} [Decidable c] {k:Option α} {r:α} (h:gd c k=some r):c∧k=some r:=by
 unfold gd at h;split at h
 ·exact⟨‹c›,h⟩
 ·cases h
theorem aD {α β:Type} {l:List β} {i:Nat} {k:β→Option α} {r:α} (h:gt l i k=some r):∃x,l[i]?=some x∧k x=some r:=by
 unfold gt at h;split at h
 ·exact⟨_,‹_›,h⟩
 ·cases h
theorem af {α β:Type} {o:Option β} {k:β→Option α} {r:α} (h:cl o k=some r):∃x,o=some x∧k x=some r:=by
 unfold cl at h;split at h
 ·exact⟨_,rfl,h⟩
 ·cases h
theorem ah {α β:Type} {a:α} {k:α→β} {r:β} (h:lP a k=r):∃x,a=x∧k x=r:=⟨a,rfl,h⟩
theorem ab {γ:Type} {b:Bool} {x y:γ} (h:b=true):br b x y=x:=by subst h;rfl
theorem aa {γ:Type} {b:Bool} {x y:γ} (h:b=false):br b x y=y:=by subst h;rfl
theorem aC {α:Type} (a:α):∃b,b=a:=⟨_,rfl⟩
theorem aG {α:Type} {l:List α} {k:Nat} (h:k<l.length):∃x,l[k]?=some x:=⟨_,List.getElem?_eq_getElem h⟩
theorem ax {α:Type} {l:List α} {k:Nat} {x:α} (h:l[k]?=some x):List.drop k l=x::List.drop (k+1) l:=by
 obtain⟨hk,rfl⟩:=List.getElem?_eq_some_iff.1 h
 exact List.drop_eq_getElem_cons hk
theorem aK {k n:Nat} (h:k<n):n-(k+1)<n-k:=by omega
theorem ez {i:Int} {k:Nat} (h:i=(k:Int)):0≤i:=by omega
section
variable {g:G} (hg:g=G.real)
include hg
theorem c7 {n:Nat} {i b:Int} (h:n+1=aA i b):g.lt i b=true:=by subst hg;unfold aA at h;simp[G.real];omega
theorem bY {i b:Int} (h:0=aA i b):g.lt i b=false:=by subst hg;unfold aA at h;simp[G.real];omega
theorem lL {n:Nat} {i b:Int} (h:n+1=dt i b):g.le i b=true:=by subst hg;unfold dt at h;simp[G.real];omega
theorem j6 {i b:Int} (h:0=dt i b):g.le i b=false:=by subst hg;unfold dt at h;simp[G.real];omega
theorem d6 {n:Nat} {i b c:Int} (h:n+1=aA i b) (hi:c≤i) (hb:b≤9223372036854775807) (hc: -4611686018427387904≤c):n=aA (g.wrap .i64 (g.add i 1)) b∧c≤g.wrap .i64 (g.add i 1):=by
 subst hg;unfold aA at*;simp only[G.real];rw[i64_in]<;>omega
theorem nR {n:Nat} {i b c:Int} (h:n+1=dt i b) (hi:c≤i) (hb:b≤4611686018427387904) (hc: -4611686018427387904≤c):n=dt (g.wrap .i64 (g.add i 1)) b∧c≤g.wrap .i64 (g.add i 1):=by
 subst hg;unfold dt at*;simp only[G.real];rw[i64_in]<;>omega
end
theorem fv {n:Nat} {i b:Int} (h:n+1=aA i b):i<b:=by unfold aA at h;omega
theorem qQ {n:Nat} {i b:Int} (h:n+1=dt i b):i≤b:=by unfold dt at h;omega
theorem yH {g:G} (hg:g=G.real) {i c:Int} {s:ByteArray} (hi:c≤i) (hl:i<g.int (g.slen s)) (hc:0≤c:=by decide):0≤i∧i<((s.size:Nat):Int):=by subst hg;simp[G.real] at hl;omega
theorem lz {g:G} (hg:g=G.real) {i c:Int} {n:Nat} (hi:c≤i) (hl:i<g.int n) (hc:0≤c:=by decide):0≤i∧i<((n:Nat):Int):=by subst hg;simp[G.real] at hl;omega
theorem uw:70368744177664≤maxLen:=by unfold maxLen;omega
theorem lW {es news:List (List D)} {n b l m:Nat} (h1:n=es.length) (hl:es.length=l) (hm:news.length=m) (hb:0<b) (h:(l+m)*b≤70368744177664):0=0∧n≤es.length∧n+news.length≤maxLen∧(n+news.length)*b≤140737488355328:=by
 subst h1 hl hm
 have hx:es.length+news.length≤(es.length+news.length)*b:=Nat.le_mul_of_pos_right _ hb
 have:=uw
 exact⟨rfl,Nat.le_refl _,by omega,by omega⟩
theorem FK {g:G} (hg:g=G.real) {es:List (List D)} {n:Nat} {m:Int} (hn:n=es.length) (h:0≤m∧m≤((n:Nat):Int)):0≤m∧m≤((n:Nat):Int)∧g.nat m≤g.dlen es:=
 ⟨h.1,h.2,by
  subst hg
  subst hn
  show m.toNat≤es.length
  omega⟩
end Go.Vs
namespace Go.Vs
open Go.IntWalk
@[simp] theorem ag {α:Type} {c:Prop} [Decidable c] {k:Option α} (h:c):gd c k=k:=by unfold gd;rw[if_pos h]
@[simp] theorem ar {α β:Type} {l:List β} {i:Nat} {k:β→Option α} {x:β} (h:l[i]?=some x):gt l i k=k x:=by unfold gt;rw[h]
@[simp] theorem ae {α β:Type} {x:β} {k:β→Option α}:cl (some x) k=k x:=rfl
@[simp] theorem aN {α β:Type} {a:α} {k:α→β}:lP a k=k a:=rfl
@[simp] theorem bS {γ:Type} {x y:γ}:br true x y=x:=rfl
@[simp] theorem lO {γ:Type} {x y:γ}:br false x y=y:=rfl
@[simp] theorem al {γ:Type} {p:Prop} [Decidable p] {x y:γ}:br (decide p) x y=if p then x else y:=by by_cases h:p<;>simp[h]
@[simp] theorem br_same {γ:Type} {b:Bool} {x:γ}:br b x x=x:=by cases b<;>rfl
@[simp] theorem br_tf {b:Bool}:br b true false=b:=by cases b<;>rfl
@[simp] theorem br_stf {b:Bool}:br b (some true) (some false)=some b:=by cases b<;>rfl
@[simp] theorem yh {ρ β:Type} {r:ρ} {k:β→Option ρ}:lr (.ret r) k=some r:=rfl
@[simp] theorem rU {ρ β:Type} {y:β} {k:β→Option ρ}:lr (.out y) k=k y:=rfl
@[simp] theorem lrL_ret {ρ β γ:Type} {r:ρ} {k:β→Option (LR ρ γ)}:lrL (.ret r) k=some (.ret r):=rfl
@[simp] theorem lrL_out {ρ β γ:Type} {y:β} {k:β→Option (LR ρ γ)}:lrL (.out y) k=k y:=rfl
@[simp] theorem lrp_ret {ρ β:Type} {r:ρ} {k:β→ρ}:lrp (.ret r) k=r:=rfl
@[simp] theorem lrp_out {ρ β:Type} {y:β} {k:β→ρ}:lrp (.out y) k=k y:=rfl
@[simp] theorem H2 {ρ β γ:Type} {r:ρ} {k:β→LR ρ γ}:aZ (.ret r) k=.ret r:=rfl
@[simp] theorem Hg {ρ β γ:Type} {y:β} {k:β→LR ρ γ}:aZ (.out y) k=k y:=rfl
@[simp] theorem dc (a b:Int):G.real.lt a b=decide (a<b):=rfl
@[simp] theorem jz (a b:Int):G.real.le a b=decide (a≤b):=rfl
@[simp] theorem de (a b:Int):G.real.eq a b=decide (a=b):=by simp[G.real,Bool.beq_eq_decide_eq]
@[simp] theorem bh (a b:Int):G.real.add a b=a+b:=rfl
@[simp] theorem kV (a b:Int):G.real.sub a b=a-b:=rfl
@[simp] theorem mw (a b:Int):G.real.mul a b=a*b:=rfl
@[simp] theorem HH (a b:Int):G.real.quo a b=a.tdiv b:=rfl
@[simp] theorem vW (a b:Int):G.real.rem a b=a.tmod b:=rfl
@[simp] theorem bo (a:Int):G.real.nat a=a.toNat:=rfl
@[simp] theorem eo (n:Nat):G.real.int n=(n:Int):=rfl
@[simp] theorem FSq (a b:Nat):G.real.nadd a b=a+b:=rfl
@[simp] theorem Fg (a b:Nat):G.real.nsub a b=a-b:=rfl
@[simp] theorem Fe (a:ByteArray):G.real.slen a=a.size:=rfl
@[simp] theorem R_cat (a b:ByteArray):G.real.cat a b=a++b:=rfl
@[simp] theorem G3 (a b:ByteArray):G.real.seq a b=(a.toList==b.toList):=rfl
@[simp] theorem wg (l:List Bool):G.real.all l=l.all id:=rfl
theorem w64 {n:Int} (h1: -9223372036854775808≤n) (h2:n≤9223372036854775807):G.real.wrap .i64 n=n:=by
 show IntKind.i64.wrap n=n
 exact i64_in n (by omega)
end Go.Vs
