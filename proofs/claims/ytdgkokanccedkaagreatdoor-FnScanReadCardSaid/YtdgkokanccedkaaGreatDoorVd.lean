/- Part of the proofs of this seat's laws: Vd. No condition. -/
import Derived.Test.YtdgkokanccedkaaGreatDoorVc
import Derived.MapKept
import Derived.Laws.BytesArg
import Derived.Laws.Small
import Derived.Deep.LoopGhost
import Derived.Orders
set_option linter.unusedVariables false
set_option linter.unusedSimpArgs false
set_option linter.unusedSectionVars false
namespace Go.Vs
open Go.RowKit
inductive AM where
 |m (d:D)
 |g (ds:List D)
 |p (ds:List D)
def eG (w:World) (S:Nat→Prop):AM→Value→Value→List Nat→Prop
 |.m d,y,_,F=>cv w S d y F
 |.g ds,y,_,F=>∃ys,y=.agg ys.toArray∧ak w S ds ys F
 |.p ds,y,hd,F=>∃b N cap ty xs fps,Hd hd b N cap∧y=.pointer (some ⟨b,0,none⟩)∧w.ownsRow 0 ty ds.length hd 1 xs∧ak w S ds xs fps∧F=hd.ownBlock.toList++fps
structure LeftM (w w':World) (F G F':List Nat) (S':Nat→Prop):Prop where
 os:w'.os=w.os
 tape:w'.tape=w.tape
 output:w'.output=w.output
 size:w.heap.size≤w'.heap.size
 block:∀b,b<w.heap.size→b∉F→w'.heap[b]?=w.heap[b]?
 nodup:(F'++G).Nodup
 own:∀b∈F'++G,(b∈F∨w.heap.size≤b)∧b<w'.heap.size∧¬S' b
 ro:∀b,S' b→(b∈F∨w.heap.size≤b)∧b<w'.heap.size
def FnM (P:Program) (f:FuncId) (a0:AM) (as:List A) (res:X) (a0':AM):Prop:=
 ∀(w:World) (S0:Nat→Prop) (y0 hd:Value) (vs:List Value) (F:List Nat),(∀b,S0 b→b<w.heap.size∧b∉F)→eG w S0 a0 y0 hd F→dR w S0 as vs→F.Nodup→(∀b∈F,b<w.heap.size)→Keeps P F w→
  Calls P f (y0::vs).toArray w fun e w'=>∃y G F' S',e=.returned y∧cF w' (fun b=>S0 b∨S' b) res y G∧eG w' (fun b=>S0 b∨S' b) a0' y0 hd F'∧LeftM w w' F G F' S'
def iI (st:St) (id k:Nat):Option (List C):=match st.ent id with
 |some (.foc k' [] cs [])=>if k'=k then some cs else none
 |_=>none
def gF (st:St):V→Option (AM×St)
 |.c (.p id k i off)=>match iI st id k with
  |some cs=>if i=0∧off=0 then(match ap (st.kill id) cs with
   |some (ds,s)=>some (.p ds,s)
   |none=>none) else none
  |none=>none
 |.c c=>match ap st [c] with
  |some ([d],s)=>some (.m d,s)
  |_=>none
 |.g cs=>match ap st cs with
  |some (ds,s)=>some (.g ds,s)
  |none=>none
 |_=>none
def fw (st:St):C→D→Option St
 |.f id k _ _,.o k' es=>if k'=k then some (st.set id (.arr k es)) else none
 |.f _ _ _ _,.r _=>none
 |.p _ _ _ _,_=>none
 |.un,_=>none
 |_,_=>some st
def dZ (st:St):List C→List D→Option St
 |[],[]=>some st
 |c::cs,d::ds=>match fw st c d with
  |some s=>dZ s cs ds
  |none=>none
 |_,_=>none
def back (nid:Nat) (st:St):V→AM→Option St
 |.c (.p id k _ _),.p ds=>if ds.length=k then(match aL nid st ds with
  |(cs,s)=>some (s.set id (.foc k [] cs []))) else none
 |.c c,.m d=>fw st c d
 |.g cs,.g ds=>dZ st cs ds
 |_,_=>none
def AM.cnt:AM→Nat
 |.p ds=>ds.length
 |_=>0
def lq:List C→List Nat
 |[]=>[]
 |.f id _ _ _::cs=>id::lq cs
 |_::cs=>lq cs
section
variable {φ:Nat→Value} {S:Nat→Prop} {fp:Nat→List Nat} {M:MS} {w0:World} {U:Nat→Prop} {N:Nat} {st st':St} {a:Act} {w w':World} {P:Program}
def nI (φ:Nat→Value):V→Value
 |.c (.p id _ _ _)=>φ id
 |_=>undef
theorem rW:∀{cs:List C} {id k lo n:Nat},C.f id k lo n∈cs→id∈lq cs
 |c::cs,id,k,lo,n,h=>by
  rcases List.mem_cons.1 h with h|h
  ·subst h;simp[lq]
  ·have:=rW h
   cases c<;>simp[lq,this]
theorem fR:∀{cs:List C} {st st':St} {ds:List D},ap st cs=some (ds,st')→(lq cs).Nodup∧∀id∈lq cs,∃e,st.ent id=some e
 |[],st,st',ds,h=>by simp[lq]
 |c::cs,st,st',ds,h=>by
  cases c with
  |r x=>
   simp only[ap,Option.map_eq_some_iff] at h
   obtain⟨p,hp,_⟩:=h
   exact fR (cs:=cs) (st':=p.2) (ds:=p.1) hp
  |n k=>
   simp only[ap,Option.map_eq_some_iff] at h
   obtain⟨p,hp,_⟩:=h
   exact fR (cs:=cs) (st':=p.2) (ds:=p.1) hp
  |f id k lo n=>
   simp only[ap] at h
   split at h
   ·rename_i k' es he
    split at h
    ·simp only[Option.map_eq_some_iff] at h
     obtain⟨p,hp,_⟩:=h
     obtain⟨h1,h2⟩:=fR (st':=p.2) (ds:=p.1) hp
     refine⟨?_,fun i hi=>?_⟩
     ·simp only[lq,List.nodup_cons]
      refine⟨fun hm=>?_,h1⟩
      obtain⟨e,he2⟩:=h2 id hm
      rw[ax,if_pos rfl] at he2
      cases he2
     ·rcases List.mem_cons.1 hi with rfl|hi
      ·exact⟨_,he⟩
      ·obtain⟨e,he2⟩:=h2 i hi
       rw[ax] at he2
       split at he2
       ·cases he2
       ·exact⟨e,he2⟩
    ·cases h
   ·cases h
  |p id k i off=>simp[ap] at h
  |un=>simp[ap] at h
  |m id=>simp[ap] at h
theorem fE:∀{cs:List C} {st st':St} {ds:List D} {ys:List Value},ap st cs=some (ds,st')→SimX φ S fp M w0 U N st a w→ar w S φ cs ys→∀(j id k lo n:Nat),cs[j]?=some (.f id k lo n)→∃y,ys[j]?=some y∧φ id=y∧U id∧st'.ent id=none
 |[],st,st',ds,ys,h,hs,hr,j,id,k,lo,n,hj=>by simp at hj
 |c::cs,st,st',ds,ys,h,hs,hr,j,id,k,lo,n,hj=>by
  obtain⟨z,zs,rfl,hz,hzs⟩:=hr
  have rest:∀{s:St} {p:List D×St},ap s cs=some p→p.2=st'→SimX φ S fp M w0 U N s a w→∀j',j=j'+1→∃y,(z::zs)[j]?=some y∧φ id=y∧U id∧st'.ent id=none:=by
   intro s p hp e1 hs2 j' hj'
   subst hj'
   obtain⟨y,h1,h2⟩:=fE (ds:=p.1) (st':=p.2) hp hs2 hzs j' id k lo n (by simpa using hj)
   exact⟨y,by simpa using h1,by rw[←e1];exact h2⟩
  cases c with
  |r x=>
   simp only[ap,Option.map_eq_some_iff] at h
   obtain⟨p,hp,h⟩:=h
   cases h
   cases j with
   |zero=>simp at hj
   |succ j=>exact rest hp rfl hs j rfl
  |n k0=>
   simp only[ap,Option.map_eq_some_iff] at h
   obtain⟨p,hp,h⟩:=h
   cases h
   cases j with
   |zero=>simp at hj
   |succ j=>exact rest hp rfl hs j rfl
  |f id0 k0 lo0 n0=>
   simp only[ap] at h
   split at h
   ·rename_i k' es he
    split at h
    ·rename_i hc
     obtain⟨rfl,rfl,rfl⟩:=hc
     simp only[Option.map_eq_some_iff] at h
     obtain⟨p,hp,h⟩:=h
     cases h
     cases j with
     |zero=>
      simp at hj
      obtain⟨rfl,rfl,rfl,rfl⟩:=hj
      obtain⟨u1,u2,u3,_⟩:=hs.ents id0 _ he
      obtain⟨ty,xs,fps,o1,_⟩:=u3
      refine⟨z,by simp,?_,u1,?_⟩
      ·rcases o1.2 with⟨e1,e2⟩|⟨g,cap,cur,e1,_⟩
       ·simp only[av] at hz
        rcases hz with⟨_,_,hz,rfl⟩|⟨_,b,N',cap',hz,rfl,_⟩|⟨h0,_⟩
        ·exact hz
        ·rw[e1] at hz;cases hz
        ·omega
       ·simp only[av] at hz
        rcases hz with⟨_,_,hz,rfl⟩|⟨_,b,N',cap',hz,rfl,_⟩|⟨h0,_⟩
        ·exact hz
        ·rw[e1] at hz;cases hz;exact e1
        ·omega
      ·obtain⟨_,_,_,_,_,_,hsub⟩:=a9 cs _ _ _ _ hp (hs.kill id0) hzs
       cases hne:p.2.ent id0 with
       |none=>rfl
       |some e=>
        have:=hsub id0 e hne
        rw[ax,if_pos rfl] at this
        cases this
     |succ j=>exact rest hp rfl (hs.kill id0) j rfl
    ·cases h
   ·cases h
  |p id0 k0 i off=>simp[ap] at h
  |un=>simp[ap] at h
  |m id=>simp[ap] at h
theorem oB (φ:Nat→Value) (id:Nat):Vs.upd φ id (φ id)=φ:=by
 funext j
 by_cases h:j=id
 ·subst h;simp
 ·simp[Vs.upd,h]
theorem SimX.back (h:SimX φ S fp M w0 U N st a w) {id:Nat} (hU:U id) (hn:st.ent id=none) {e:Ent} {F:List Nat} (heU:e.inU U) (hent:entRep w S φ (φ id) e F) (hF:F.Nodup) (hF2:∀b∈F,aT S fp M w0 st w b):
 SimX φ S (Vs.upd fp id F) M w0 U N (st.set id e) a w:=by
 have:=h.put_ent (w':=w) (S':=S) (id:=id) (e:=e) (hd:=φ id) (F:=F) (fun i _=>by rw[oB]) hn rfl rfl rfl (Nat.le_refl _) (fun _ _ _=>rfl) (fun _ hb=>hb) (fun _ hb=>.inl hb) heU (by rw[oB];exact hent) hF (fun b hb=>⟨(hF2 b hb).2.2.1,.inl (hF2 b hb)⟩)
 rw[oB] at this
 exact this.mono fun i hi=>hi.elim (fun h=>h) (fun h=>h▸hU)
theorem ll {id:Nat} {e:Ent} {F:List Nat} {b:Nat} (hb:aT S fp M w0 st w b) (hbF:b∉F):aT S (Vs.upd fp id F) M w0 (st.set id e) w b:=by
 refine⟨hb.1,hb.2.1,hb.2.2.1,fun i e' he=>?_⟩
 rw[bq] at he
 by_cases hi:i=id
 ·subst hi;rw[cu];exact hbF
 ·rw[if_neg hi] at he;rw[bV _ _ hi];exact hb.2.2.2 i e' he
theorem gj:∀{cs:List C} {ds:List D} {ys:List Value} {F:List Nat} {st s:St} {fp:Nat→List Nat},SimX φ S fp M w0 U N st a w→ak w S ds ys F→F.Nodup→(∀b∈F,aT S fp M w0 st w b)→(lq cs).Nodup→
 (∀(j id k lo n:Nat),cs[j]?=some (.f id k lo n)→∃y,ys[j]?=some y∧φ id=y∧U id∧st.ent id=none)→dZ st cs ds=some s→
 ∃fp',SimX φ S fp' M w0 U N s a w∧(∀b,aT S fp M w0 st w b→b∉F→aT S fp' M w0 s w b)
 |[],ds,ys,F,st,s,fp,h,hd,hF,hF2,hn,hh,hb=>by
  cases ds with
  |nil=>simp[dZ] at hb;subst hb;exact⟨fp,h,fun _ h _=>h⟩
  |cons d ds=>simp[dZ] at hb
 |c::cs,ds,ys,F,st,s,fp,h,hd,hF,hF2,hn,hh,hb=>by
  cases ds with
  |nil=>simp[dZ] at hb
  |cons d ds=>
   simp only[ak] at hd
   obtain⟨y,yt,f1,f2,rfl,rfl,h1,h2⟩:=hd
   have hF1:=(List.nodup_append.1 hF)
   simp only[dZ] at hb
   have plain:fw st c d=some st→lq (c::cs)=lq cs→∃fp',SimX φ S fp' M w0 U N s a w∧(∀b,aT S fp M w0 st w b→b∉f1++f2→aT S fp' M w0 s w b):=by
    intro hbc hfi
    rw[hbc] at hb
    rw[hfi] at hn
    obtain⟨fp',q1,q2⟩:=gj h h2 hF1.2.1 (fun b hb=>hF2 b (by simp[hb])) hn (fun j id k lo n hj=>by
     obtain⟨y',e1,e2⟩:=hh (j+1) id k lo n (by simpa using hj)
     exact⟨y',by simpa using e1,e2⟩) hb
    exact⟨fp',q1,fun b hb hnb=>q2 b hb (fun hm=>hnb (by simp[hm]))⟩
   cases c with
   |f id k lo n=>
    cases d with
    |r x=>simp[fw] at hb
    |o k' es=>
     simp only[fw] at hb
     split at hb
     ·rename_i s1 hs1
      split at hs1
      ·rename_i hk
       subst hk
       cases hs1
       obtain⟨y',e1,e2,e3,e4⟩:=hh 0 id k' lo n (by simp)
       simp at e1
       subst e1
       have hent:entRep w S φ (φ id) (.arr k' es) f1:=by
        simp only[cv] at h1
        rw[e2]
        exact h1
       have hs:=h.back e3 e4 (e:=.arr k' es) trivial hent hF1.1 (fun b hb=>hF2 b (by simp[hb]))
       simp only[lq,List.nodup_cons] at hn
       obtain⟨fp',q1,q2⟩:=gj hs h2 hF1.2.1 (fun b hb=>ll (hF2 b (by simp[hb])) (fun hm=>hF1.2.2 b hm b hb rfl)) hn.2 (fun j id' k lo n hj=>by
        obtain⟨y'',e1,e2,e3',e4'⟩:=hh (j+1) id' k lo n (by simpa using hj)
        refine⟨y'',by simpa using e1,e2,e3',?_⟩
        rw[bq,if_neg]
        ·exact e4'
        ·intro e;subst e
         exact hn.1 (rW (List.mem_of_getElem? hj))) hb
       exact⟨fp',q1,fun b hb hnb=>q2 b (ll hb (fun hm=>hnb (by simp[hm]))) (fun hm=>hnb (by simp[hm]))⟩
      ·cases hs1
     ·cases hb
   |r x=>exact plain rfl rfl
   |n k=>exact plain rfl rfl
   |p id k i off=>simp[fw] at hb
   |un=>simp[fw] at hb
   |m id=>exact plain rfl rfl
theorem hJ {id k:Nat} {cs:List C} (h:iI st id k=some cs):st.ent id=some (.foc k [] cs []):=by
 unfold iI at h
 split at h
 ·rename_i k' cs' he
  split at h
  ·rename_i hk;subst hk;cases h;exact he
  ·cases h
 ·cases h
theorem lm (h:SimX φ S fp M w0 U N st a w) {v:V} {y:Value} (hv:vRep w S φ v y) {a0:AM} {s:St} (hm:gF st v=some (a0,s)):
 ∃F,eG w S a0 y (nI φ v) F∧F.Nodup∧(∀b∈F,(∃i e,st.ent i=some e∧b∈fp i)∧∀i e,s.ent i=some e→b∉fp i)∧SimX φ S fp M w0 U N s a w∧(∀t,s.get t=st.get t)∧(∀i e,s.ent i=some e→st.ent i=some e):=by
 unfold gF at hm
 split at hm
 ·rename_i id k i off
  split at hm
  ·rename_i cs hbx
   have he:=hJ hbx
   split at hm
   ·rename_i hc
    obtain⟨rfl,rfl⟩:=hc
    split at hm
    ·rename_i ds s' hab
     cases hm
     obtain⟨u1,u2,u3,u4,u5⟩:=h.ents id _ he
     obtain⟨ty,x1,xs,x2,f1,f2,o1,o2,o3,o4,o5⟩:=u3
     simp only[an] at o2 o4
     obtain⟨rfl,rfl⟩:=o2
     obtain⟨rfl,rfl⟩:=o4
     simp only[List.nil_append,List.append_nil,List.length_nil,Nat.zero_add,Nat.add_zero] at o1 o5
     obtain⟨F,a1,a2,a3,a4,a5,a6⟩:=a9 cs _ _ _ _ hab (h.kill id) o3.2
     simp only[vRep,av] at hv
     obtain⟨b,N',cap,hHd,rfl⟩:=hv
     have hlen:=aG _ _ _ a1
     have hcl:=aC _ _ o3.2
     refine⟨(φ id).ownBlock.toList++F,⟨b,N',cap,ty,xs,F,hHd,by simp,?_,a1,rfl⟩,?_,fun b' hb'=>?_,a4,fun t=>(a5 t).trans rfl,fun i e hi=>?_⟩
     ·rw[←hlen,hcl,o3.1];exact o1
     ·refine List.nodup_append.2 ⟨by cases (φ id).ownBlock<;>simp,a2,fun x hx z hz hxz=>?_⟩
      subst hxz
      obtain⟨⟨i,e,hi,hm⟩,_⟩:=a3 x hz
      rw[ax] at hi
      split at hi
      ·cases hi
      ·rename_i hne
       exact h.disj i e id _ hi he hne x hm (by rw[o5];exact hx)
     ·rcases List.mem_append.1 hb' with hb'|hb'
      ·refine⟨⟨id,_,he,by rw[o5];exact hb'⟩,fun i e hi hm=>?_⟩
       have hi2:=a6 i e hi
       rw[ax] at hi2
       split at hi2
       ·cases hi2
       ·rename_i hne
        exact h.disj i e id _ hi2 he hne b' hm (by rw[o5];exact hb')
      ·obtain⟨⟨i,e,hi,hm⟩,h3⟩:=a3 b' hb'
       rw[ax] at hi
       split at hi
       ·cases hi
       ·exact⟨⟨i,e,hi,hm⟩,h3⟩
     ·have hi2:=a6 i e hi
      rw[ax] at hi2
      split at hi2
      ·cases hi2
      ·exact hi2
    ·cases hm
   ·cases hm
  ·cases hm
 ·rename_i c hnp
  split at hm
  ·rename_i d s' hab
   cases hm
   simp only[vRep] at hv
   obtain⟨F,a1,a2,a3,a4,a5,a6⟩:=a9 [c] _ _ _ [y] hab h ⟨y,[],rfl,hv,rfl⟩
   simp only[ak] at a1
   obtain⟨z,zs,f1,f2,e1,rfl,e3,rfl,rfl⟩:=a1
   cases e1
   simp only[List.append_nil] at a2 a3
   exact⟨f1,e3,a2,a3,a4,a5,a6⟩
  ·cases hm
 ·rename_i cs
  split at hm
  ·rename_i ds s' hab
   cases hm
   simp only[vRep] at hv
   obtain⟨ys,rfl,hr⟩:=hv
   obtain⟨F,a1,a2,a3,a4,a5,a6⟩:=a9 cs _ _ _ ys hab h hr
   exact⟨F,⟨ys,rfl,a1⟩,a2,a3,a4,a5,a6⟩
  ·cases hm
 ·cases hm
theorem wj (h:SimX φ S fp M w0 U N st a w) {v:V} {y:Value} (hv:vRep w S φ v y) {a0 a0':AM} {s s2:St} (hm:gF st v=some (a0,s)) {S2:Nat→Prop} (h2:SimX φ S2 fp M w0 U N s a w')
 {F':List Nat} (ha:eG w' S2 a0' y (nI φ v) F') (hF:F'.Nodup) (hF2:∀b∈F',aT S2 fp M w0 s w' b) {nid:Nat} (hn:∀c,nid≤c→c<nid+a0'.cnt→¬U c) (hb:back nid s v a0'=some s2):
 ∃φ' fp',SimX φ' S2 fp' M w0 (fun i=>U i∨(nid≤i∧i<nid+a0'.cnt)) N s2 a w'∧(∀i,U i→φ' i=φ i)∧(∀b,aT S2 fp M w0 s w' b→b∉F'→aT S2 fp' M w0 s2 w' b):=by
 unfold back at hb
 split at hb
 ·rename_i id k i off ds
  split at hb
  ·rename_i hk
   cases hb
   unfold gF at hm
   simp only at hm
   split at hm
   ·rename_i cs hbx
    have he:=hJ hbx
    split at hm
    ·rename_i hc
     split at hm
     ·rename_i ds0 s' hab
      cases hm
      obtain⟨u1,u2,u3,u4,u5⟩:=h.ents id _ he
      obtain⟨ty0,x10,xs0,x20,f10,f20,o1,o2,o3,o4,o5⟩:=u3
      obtain⟨_,_,_,_,_,_,a6⟩:=a9 cs _ _ _ _ hab (h.kill id) o3.2
      have hnone:s.ent id=none:=by
       cases hne:s.ent id with
       |none=>rfl
       |some e=>
        have:=a6 id e hne
        rw[ax,if_pos rfl] at this
        cases this
      obtain⟨b,N',cap,ty,xs,fps,hHd,_,p1,p2,rfl⟩:=ha
      have hnd:=List.nodup_append.1 hF
      obtain⟨φ',fp',q1,q2,q3,q4,q5⟩:=dm ds nid h2 hn p2 hnd.2.1 (fun b hb=>hF2 b (by simp[hb]))
      have hid0:¬(nid≤id∧id<nid+ds.length):=fun hh=>hn id hh.1 hh.2 u1
      have hnone2:(aL nid s ds).2.ent id=none:=by
       have:∀(ds:List D) (n:Nat) (s:St),¬(n≤id∧id<n+ds.length)→(aL n s ds).2.ent id=s.ent id:=by
        intro ds
        induction ds with
        |nil=>intro n s _;rfl
        |cons d ds ih=>
         intro n s hh
         simp only[aL]
         rw[ih _ _ (by simp at hh;omega)]
         cases d with
         |r x=>rfl
         |o k es=>simp only[eF];rw[bq,if_neg (by simp at hh;omega)]
       rw[this ds nid s hid0];exact hnone
      have hent:entRep w' S2 φ' (φ' id) (.foc k [] (aL nid s ds).1 []) ((φ id).ownBlock.toList):=by
       have hl:=aC _ _ q4
       have hdl:=aG _ _ _ p2
       refine⟨ty,[],xs,[],[],[],?_,by simp[an],⟨by omega,q4⟩,by simp[an],?_⟩
       ·rw[q2 id u1,←hk]
        simpa [nI] using p1
       ·rw[q2 id u1];simp
      have hfree:∀b∈(φ id).ownBlock.toList,aT S2 fp' M w0 (aL nid s ds).2 w' b:=fun b hb=>q5 b (hF2 b (by simp only[nI];simp at hb ⊢;exact .inl hb)) (fun hm=>hnd.2.2 b (by simp only[nI];exact hb) b hm rfl)
      have hs:=q1.back (id:=id) (.inl u1) hnone2 (e:=.foc k [] (aL nid s ds).1 []) q3 hent (by cases (φ id).ownBlock<;>simp) hfree
      refine⟨φ',_,hs,q2,fun b hb hnb=>ll (q5 b hb (fun hm=>hnb (by simp[hm]))) (fun hm=>hnb (by simp only[nI];simp at hm ⊢;exact .inl hm))⟩
     ·cases hm
    ·cases hm
   ·cases hm
  ·cases hb
 ·rename_i c d
  unfold gF at hm
  split at hm
  ·rename_i id k i off heq
   cases heq
   exact absurd hb (by cases d<;>simp_all [fw])
  ·rename_i c' hnp' heq
   cases heq
   split at hm
   ·rename_i d0 s' hab
    cases hm
    simp only[vRep] at hv
    have hr:ar w S φ [c] [y]:=⟨y,[],rfl,hv,rfl⟩
    obtain⟨i1,_⟩:=fR hab
    have hh:=fE hab h hr
    simp only[eG] at ha
    have hdc:ak w' S2 [d] [y] F':=by simp only[ak];exact⟨y,[],F',[],rfl,by simp,ha,rfl,rfl⟩
    have hb2:dZ s [c] [d]=some s2:=by simp only[dZ];rw[hb]
    obtain⟨fp',q1,q2⟩:=gj h2 hdc hF hF2 i1 hh hb2
    exact⟨φ,fp',q1.mono (fun i hi=>.inl hi),fun _ _=>rfl,q2⟩
   ·cases hm
  ·rename_i heq;cases heq
  ·cases hm
 ·rename_i cs ds
  unfold gF at hm
  simp only at hm
  split at hm
  ·rename_i ds0 s' hab
   cases hm
   simp only[vRep] at hv
   obtain⟨ys,rfl,hr⟩:=hv
   obtain⟨i1,_⟩:=fR hab
   have hh:=fE hab h hr
   simp only[eG] at ha
   obtain⟨ys',e1,ha⟩:=ha
   have e2:ys=ys':=by simpa using e1
   subst e2
   obtain⟨fp',q1,q2⟩:=gj h2 ha hF hF2 i1 hh hb
   exact⟨φ,fp',q1.mono (fun i hi=>.inl hi),fun _ _=>rfl,q2⟩
  ·cases hm
 ·cases hb
theorem wB {o:Oper} {f:FuncId} {args:Array Operand} {ats:Array TypeId} {x0:O} {xs:List O} {a0 a0':AM} {as:List A} {res:X} {s s2:St} {own:Bool} {nid:Nat} {K:Act→World→Prop} {Q:Exit→Act→World→Prop}
 (ho:o.op=.call {callee:=.value (.func f),args:=args,argTypes:=ats}) (hf:fZ P f=true) (hx:cG args.toList (x0::xs)=true) (hm:gF st (st.ev x0)=some (a0,s)) (has:gK st xs=some as) (hld:fi st xs=false) (hfn:FnM P f a0 as res a0') (hc:res.count≤8) (hc2:a0'.cnt≤8) (hbk:back (nid+8) s (st.ev x0) a0'=some s2)
 (hL:Keeps P M.bl w0) (h:SimX φ S fp M w0 U N st a w) (hn:∀c,nid≤c→c<nid+16→¬U c)
 (hK:∀y w' φ2 S2 fp2,SimX φ2 S2 fp2 M w0 (iy U nid) N (bT own nid s2 res).2 a w'→(bT own nid s2 res).1.inU (iy U nid)→vRep w' S2 φ2 (bT own nid s2 res).1 y→K (a.put o.dst y) w'):o.wp P a w K Q:=by
 obtain⟨x,xt,hxs⟩:∃x xt,args.toList=x::xt:=by
  cases hal:args.toList with
  |nil=>rw[hal] at hx;simp[cG] at hx
  |cons x xt=>exact⟨x,xt,rfl⟩
 rw[hxs] at hx
 simp only[cG,Bool.and_eq_true] at hx
 obtain⟨hv,_⟩:=h.ev hx.1
 obtain⟨F,m1,m2,m3,m4,m5,m6⟩:=lm h hv hm
 have hFlt:∀b∈F,b<w.heap.size:=fun b hb=>by
  obtain⟨⟨i,e,hi,hm⟩,_⟩:=m3 b hb
  exact((h.ents i e hi).2.2.2.2 b hm).2.1
 have hFS:∀b∈F,¬S b:=fun b hb=>by
  obtain⟨⟨i,e,hi,hm⟩,_⟩:=m3 b hb
  exact((h.ents i e hi).2.2.2.2 b hm).2.2
 have hFM:∀b∈F,w0.heap.size≤b∨b∈M:=fun b hb=>by
  obtain⟨⟨i,e,hi,hm⟩,_⟩:=m3 b hb
  exact((h.ents i e hi).2.2.2.2 b hm).1
 have hS0:∀b,S b→b<w.heap.size∧b∉F:=fun b hb=>⟨h.sLt b hb,fun hm=>hFS b hm hb⟩
 have h0:SimX φ S fp M w0 U N {st with tab:=[]} a w:={h with
  ents:=fun id e he=>by simp[St.ent,aB] at he
  disj:=fun id e id' e' he=>by simp[St.ent,aB] at he}
 have har:=fP (T:=S) h0 (fun b hb=>hb) (fun id e he=>by simp[St.ent,aB] at he) xt xs as hx.2 ((mY (st:=st) {st with tab:=[]} rfl hld).trans has)
 have hcall:=hfn w S (a.eval x) (nI φ (st.ev x0)) (xt.map a.eval) F hS0 m1 har m2 hFlt (h.keeps hL hFM)
 have hrun:(execOp a.eval o).run P w=.ok (.enter f (a.eval x::xt.map a.eval).toArray) w:=by
  have e0:(a.eval x::xt.map a.eval).toArray=(args.toList.map a.eval).toArray:=by rw[hxs];rfl
  rw[e0]
  simp only[execOp,ho]
  have:(#[]++args.map a.eval++#[]:Array Value)=(args.toList.map a.eval).toArray:=by
   apply Array.ext'
   simp
  simp only[resolve,Act.eval,Deferred.ofValue,Sem.run_bind,Sem.run_pure,Result.andThen_ok,invoke]
  rw[←this,ez hf]
 unfold Oper.wp
 rw[hrun,Oper.upon_enter]
 refine hcall.mono fun e w' hpost=>?_
 obtain⟨y,G,F',S',rfl,hxr,hmr',hl⟩:=hpost
 have hfreeF:∀b∈F,aT S fp M w0 s w b:=fun b hb=>⟨hFM b hb,hFlt b hb,hFS b hb,(m3 b hb).2⟩
 have h2:=m4.world2 (w':=w') (S':=fun b=>S b∨S' b) hl.os hl.tape hl.output hl.size (fun b hb hnf=>hl.block b hb (fun hm=>hnf (hfreeF b hm))) (fun _ hb=>.inl hb) (fun b hb=>by
  rcases hb with hb|hb
  ·exact .inl hb
  ·rcases(hl.ro b hb).1 with hm|hm
   ·exact .inr (.inl (hfreeF b hm))
   ·exact .inr (.inr ⟨hm,(hl.ro b hb).2⟩))
 have hnd:=List.nodup_append.1 hl.nodup
 have hfree:∀b∈F'++G,aT (fun b=>S b∨S' b) fp M w0 s w' b:=fun b hb=>by
  obtain⟨e1,e2,e3⟩:=hl.own b hb
  refine⟨?_,e2,?_,fun i e he hm=>?_⟩
  ·rcases e1 with e1|e1
   ·exact hFM b e1
   ·exact .inl (Nat.le_trans h.grow e1)
  ·rintro(hs|hs)
   ·rcases e1 with e1|e1
    ·exact hFS b e1 hs
    ·have:=h.sLt b hs;omega
   ·exact e3 hs
  ·rcases e1 with e1|e1
   ·exact(m3 b e1).2 i e he hm
   ·have:=((m4.ents i e he).2.2.2.2 b hm).2.1;omega
 obtain⟨φ',fp',q1,q2,q3⟩:=wj h hv hm h2 hmr' hnd.1 (fun b hb=>hfree b (by simp[hb])) (nid:=nid+8) (fun c h1 h2=>hn c (by omega) (by omega)) hbk
 cases own with
 |false=>
  have h3:=q1.world2 (w':=w') (S':=fun b=>(S b∨S' b)∨b∈G) rfl rfl rfl (Nat.le_refl _) (fun _ _ _=>rfl) (fun _ hb=>.inl hb) (fun b hb=>by
   rcases hb with hb|hb
   ·exact .inl hb
   ·exact .inr (.inl (q3 b (hfree b (by simp[hb])) (fun hm=>hnd.2.2 b hm b hb rfl))))
  refine hK y w' φ' _ fp' (h3.mono fun i hi=>?_) ?_ ?_
  ·rcases hi with hi|hi
   ·exact .inl hi
   ·exact .inr ⟨by omega,by omega⟩
  ·simp only[bT,Bool.false_eq_true,if_false];exact qI res
  ·simp only[bT,Bool.false_eq_true,if_false]
   exact qv (fun b hb=>.inl hb) res y G hxr (fun b hb=>.inr hb)
 |true=>
  obtain⟨φ2,fp2,a1,a2,a3,a4,_⟩:=nS res nid q1 (fun c h1 h2 hu=>by
   rcases hu with hu|hu
   ·exact hn c h1 (by omega) hu
   ·omega) hxr hnd.2.1 (fun b hb=>q3 b (hfree b (by simp[hb])) (fun hm=>hnd.2.2 b hm b hb rfl))
  have hsub:∀i,((U i∨(nid+8≤i∧i<nid+8+a0'.cnt))∨(nid≤i∧i<nid+res.count))→iy U nid i:=fun i hi=>by
   rcases hi with(hi|hi)|hi
   ·exact .inl hi
   ·exact .inr ⟨by omega,by omega⟩
   ·exact .inr ⟨by omega,by omega⟩
  refine hK y w' φ2 (fun b=>S b∨S' b) fp2 ?_ ?_ ?_
  ·simpa only[bT,if_true] using a1.mono hsub
  ·simpa only[bT,if_true] using ej hsub _ a3
  ·simpa only[bT,if_true] using a4
end
end Go.Vs
namespace Go.Vs
open Go.RowKit
theorem iL {α:Type} {kd:TypeDesc} {mk:α→Value} [DecidableEq α] (hsame:∀a b,Instr.sameNow kd (mk a) (mk b)=some (decide (a=b))) (k:α):
 ∀(l:List α) (es:List MapEntry) (n:Nat),es.map (fun e=>(e.key,e.val))=l.map (fun k=>(mk k,.bool true))→
  (k∈l→∃i,Instr.findNow kd (mk k) es n=some (some (n+i,.bool true))∧(es[i]?).map (·.key)=some (mk k))∧(k∉l→Instr.findNow kd (mk k) es n=some none)
 |[],es,n,h=>by
  cases es with
  |nil=>exact⟨fun h=>(by cases h),fun _=>rfl⟩
  |cons e es=>simp at h
 |a::l,es,n,h=>by
  cases es with
  |nil=>simp at h
  |cons e es=>
   simp only[List.map_cons,List.cons.injEq,Prod.mk.injEq] at h
   obtain⟨⟨h1,h2⟩,h3⟩:=h
   have ih:=iL hsame k l es (n+1) h3
   simp only[Instr.findNow,h1,hsame]
   by_cases hk:k=a
   ·subst hk
    refine⟨fun _=>⟨0,by simp[h2],by simp[h1]⟩,fun hn=>absurd (List.mem_cons_self ..) hn⟩
   ·simp only[hk,decide_false]
    refine⟨fun hm=>?_,fun hn=>?_⟩
    ·obtain⟨i,e1,e2⟩:=ih.1 ((List.mem_cons.1 hm).resolve_left hk)
     exact⟨i+1,by rw[e1,show n+1+i=n+(i+1) by omega],by simpa using e2⟩
    ·exact ih.2 (fun hm=>hn (List.mem_cons_of_mem _ hm))
def hasL {α:Type} [DecidableEq α] (l:List α) (k:α):Bool:=decide (k∈l)
section
variable {P:Program} {w:World} {α:Type} [DecidableEq α] {mk:α→Value}
structure KeyOk (P:Program) (kt:TypeId) (mk:α→Value):Prop where
 desc:∃kd,P.underlying kt=some kd∧(∀a b,Instr.sameNow kd (mk a) (mk b)=some (decide (a=b)))∧(∀n e a (w:World),(Instr.checkKey e (n+1) kt (mk a)).run P w=.ok () w)
 same:∀a,Instr.sameBits 10000 (mk a) (mk a)=true
 one:∀a,(mk a).oneCell'=true
theorem gl {kt:TypeId} {kd:TypeDesc} (hu:P.underlying kt=some kd) {k:Value} {es:List MapEntry} {r} (h:Instr.findNow kd k es 0=some r):
 (Instr.findKey kt k es).run P w=.ok r w:=by
 simp[Instr.findKey,run_underlying hu,h]
theorem si {t:TypeId}:(Instr.makeMap t none).run P w=.ok (.map (some w.heap.size)) (w.alloc (.map #[] 0)):=by
 simp[Instr.makeMap]
theorem ou {t kt et:TypeId} (ht:P.underlying t=some (.map kt et)) (hz:(zeroValue et).run P w=.ok (.bool false) w) (K:KeyOk P kt mk) {b:Nat} {es:Array MapEntry} {ck:Nat}
 (hb:w.heap[b]?=some (.map es ck)) {l:List α} (hl:es.toList.map (fun e=>(e.key,e.val))=l.map (fun k=>(mk k,.bool true))) (k:α):
 (Instr.lookup t (.map (some b)) (mk k) false).run P w=.ok (.bool (hasL l k)) w:=by
 unfold hasL
 obtain⟨kd,h1,h2,h3⟩:=K.desc
 have f:=iL h2 k l es.toList 0 hl
 by_cases hk:k∈l
 ·obtain⟨i,e1,_⟩:=f.1 hk
  have:=gl (w:=w) h1 e1
  simp[Instr.lookup,run_underlying ht,MapKept.run_getObj_map hb,h3,this,hk]
 ·have:=gl (w:=w) h1 (f.2 hk)
  simp[Instr.lookup,run_underlying ht,MapKept.run_getObj_map hb,h3,this,hk,hz]
theorem jM {t kt et:TypeId} (ht:P.underlying t=some (.map kt et)) (K:KeyOk P kt mk) {b:Nat} {es:Array MapEntry} {ck:Nat}
 (hb:w.heap[b]?=some (.map es ck)) {l:List α} (hl:es.toList.map (fun e=>(e.key,e.val))=l.map (fun k=>(mk k,.bool true))) (k:α):
 ∃es' ck',(Instr.mapUpdate t (.map (some b)) (mk k) (.bool true)).run P w=.ok () {w with heap:=w.heap.setIfInBounds b (.map es' ck')}∧
  es'.toList.map (fun e=>(e.key,e.val))=(if k∈l then l else l++[k]).map (fun k=>(mk k,.bool true)):=by
 obtain⟨kd,h1,h2,h3⟩:=K.desc
 have f:=iL h2 k l es.toList 0 hl
 by_cases hk:k∈l
 ·obtain⟨i,e1,e2⟩:=f.1 hk
  have hf:=gl (w:=w) h1 e1
  have hkey:((es[i]?).map (·.key)).getD (mk k)=mk k:=by
   rw[←Array.getElem?_toList,e2];rfl
  refine⟨es.modify i fun e=>{e with key:=mk k,val:=.bool true},ck,?_,?_⟩
  ·simp only[Nat.zero_add] at hf
   simp[Instr.mapUpdate,run_underlying ht,MapKept.run_getObj_map hb,h3,hf,MapKept.run_setObj_map _ hb,hkey,Instr.keyThatStays,K.same,Result.andThen]
  ·rw[if_pos hk,←hl,Array.toList_modify]
   apply List.ext_getElem?
   intro j
   simp only[List.getElem?_map,List.getElem?_modify]
   by_cases hj:i=j
   ·subst hj
    have hv:(es.toList[i]?).map (fun e=>(e.key,e.val))=(l[i]?).map (fun k=>(mk k,.bool true)):=by
     rw[←List.getElem?_map,←List.getElem?_map,hl]
    cases he:es.toList[i]? with
    |none=>simp
    |some e=>
     rw[he] at e2 hv
     simp at e2
     cases hli:l[i]? with
     |none=>rw[hli] at hv;simp at hv
     |some a=>rw[hli] at hv;simp at hv;simp[e2,hv.2]
   ·simp[hj]
 ·have hf:=gl (w:=w) h1 (f.2 hk)
  refine⟨es.push {key:=mk k,val:=.bool true,born:=ck},ck+1,?_,?_⟩
  ·simp[Instr.mapUpdate,run_underlying ht,MapKept.run_getObj_map hb,h3,hf,MapKept.run_setObj_map _ hb,Result.andThen]
  ·simp[hk,hl]
theorem wH (a b:ByteArray):(a==b)=decide (a=b):=by
 have h:∀x y:ByteArray,(x==y)=(x.data==y.data):=fun x y=>by cases x;cases y;rfl
 rw[h]
 by_cases e:a=b
 ·subst e;simp
 ·have:a.data≠b.data:=fun q=>e (by cases a;cases b;simp at q;rw[q])
  simp[e,this]
theorem pu {kt:TypeId} (hu:P.underlying kt=some (.int .i64)):KeyOk P kt (fun a:Int=>.int .i64 a):=
 ⟨⟨_,hu,fun a b=>by simp[Instr.sameNow,BEq.beq],fun n e a w=>MapKept.run_checkKey hu (by simp[MapKept.IsKey]) e n⟩,fun a=>by simp[Instr.sameBits],fun a=>rfl⟩
theorem qi {kt:TypeId} (hu:P.underlying kt=some .string):KeyOk P kt (fun a:ByteArray=>.string a):=
 ⟨⟨_,hu,fun a b=>by simp[Instr.sameNow,wH],fun n e a w=>MapKept.run_checkKey hu (by simp[MapKept.IsKey]) e n⟩,fun a=>by simp[Instr.sameBits,wH],fun a=>rfl⟩
end
def putL {α:Type} [DecidableEq α] (l:List α) (k:α):List α:=if k∈l then l else l++[k]
def tL (P:Program) (t:TypeId):Bool:=match (P.info? t).bind (·.zero) with
 |some (.bool false)=>true
 |_=>false
def tq (P:Program) (t:TypeId):Option Bool:=match P.underlying t with
 |some (.map kt et)=>match P.underlying kt,tL P et with
  |some (.int .i64),true=>some false
  |some .string,true=>some true
  |_,_=>none
 |_=>none
theorem pD {P:Program} {t:TypeId} {b:Bool} (h:tq P t=some b):
 ∃kt et,P.underlying t=some (.map kt et)∧(∀w,(zeroValue et).run P w=.ok (.bool false) w)∧P.underlying kt=some (if b then .string else .int .i64):=by
 unfold tq at h
 split at h
 ·rename_i kt et hu
  have hz:tL P et=true→∀w,(zeroValue et).run P w=.ok (.bool false) w:=by
   intro hz w
   unfold tL at hz
   split at hz
   ·rename_i hb
    cases hi:P.info? et with
    |none=>simp[hi] at hb
    |some i=>simp[hi] at hb;simp[zeroValue,typeInfo,hi,hb]
   ·cases hz
  split at h
  ·rename_i h1 h2;cases h;exact⟨kt,et,hu,hz h2,h1⟩
  ·rename_i h1 h2;cases h;exact⟨kt,et,hu,hz h2,h1⟩
  ·cases h
 ·cases h
def my (str:Bool) (xv kv:V) (st:St):Option V:=match str,xv,kv with
 |false,.c (.m id),.c (.r (.v (.int .i64 n)))=>match st.ent id with
  |some (.mi l)=>some (.c (.r (.v (.bool (hasL l n)))))
  |_=>none
 |true,.c (.m id),.c (.r (.v (.string n)))=>match st.ent id with
  |some (.ms l)=>some (.c (.r (.v (.bool (hasL l n)))))
  |_=>none
 |_,_,_=>none
def jK (str:Bool) (xv kv:V) (st:St):Option St:=match str,xv,kv with
 |false,.c (.m id),.c (.r (.v (.int .i64 n)))=>match st.ent id with
  |some (.mi l)=>some (st.set id (.mi (putL l n)))
  |_=>none
 |true,.c (.m id),.c (.r (.v (.string n)))=>match st.ent id with
  |some (.ms l)=>some (st.set id (.ms (putL l n)))
  |_=>none
 |_,_,_=>none
section
variable {φ:Nat→Value} {S:Nat→Prop} {fp:Nat→List Nat} {M:MS} {w0:World} {U:Nat→Prop} {N:Nat} {st st':St} {a:Act} {w w':World} {P:Program}
theorem vR {o:Oper} {t:TypeId} {x k:Operand} {ox ok:O} {str:Bool} {nid:Nat} {v:V} (ho:o.op=.lookup t x k false) (hx:aI x ox=true) (hk:aI k ok=true) (ht:tq P t=some str)
 (h:SimX φ S fp M w0 U N st a w) (he:my str (st.ev ox) (st.ev ok) st=some v):Out P o M w0 U N nid st v a w:=by
 obtain⟨hv,_⟩:=h.ev hx
 obtain⟨hvk,_⟩:=h.ev hk
 obtain⟨kt,et,hu,hz,hkt⟩:=pD ht
 unfold my at he
 split at he
 ·rename_i id n e1 e2
  rw[e1] at hv;rw[e2] at hvk
  split at he
  ·rename_i l hent
   cases he
   obtain⟨_,_,⟨b,es,ck,q1,q2,q3,_⟩,_⟩:=h.ents id _ hent
   refine Out.pure h ?_ fS (dB rfl)
   simp only[vRep,av] at hv
   have:=ou hu (hz w) (pu hkt) q2 q3 n
   simp[execOp,ho,hv,q1,(bh hvk).1,this]
  ·cases he
 ·rename_i id n e1 e2
  rw[e1] at hv;rw[e2] at hvk
  split at he
  ·rename_i l hent
   cases he
   obtain⟨_,_,⟨b,es,ck,q1,q2,q3,_⟩,_⟩:=h.ents id _ hent
   refine Out.pure h ?_ fS (dB rfl)
   simp only[vRep,av] at hv
   have:=ou hu (hz w) (qi hkt) q2 q3 n
   simp[execOp,ho,hv,q1,(bh hvk).1,this]
  ·cases he
 ·cases he
def nJ (nid:Nat) (str:Bool) (st:St):V×St:=(.c (.m nid),st.set nid (match str with
 |true=>.ms []
 |false=>.mi []))
theorem vG {o:Oper} {t:TypeId} {str:Bool} {nid:Nat} (ho:o.op=.makeMap t none)
 (h:SimX φ S fp M w0 U N st a w) (hn:¬U nid):Out P o M w0 U N nid (nJ nid str st).2 (nJ nid str st).1 a w:=by
 have hn':=h.new (w':=w.alloc (.map #[] 0)) (id:=nid) (e:=match str with
  |true=>.ms []
  |false=>.mi []) (hd:=.map (some w.heap.size)) (F:=[w.heap.size]) (S':=S) hn rfl rfl rfl (by simp) (fun b hb=>heap_alloc_old w _ hb) (fun _ hb=>hb) (fun _ hb=>.inl hb)
  (by cases str<;>trivial) (by
   cases str
   ·exact⟨_,_,_,rfl,heap_alloc_new w _,by simp,rfl⟩
   ·exact⟨_,_,_,rfl,heap_alloc_new w _,by simp,rfl⟩) (by simp) (fun b hb=>by
   simp only[List.mem_singleton] at hb
   subst hb
   exact⟨Nat.le_refl _,by simp,fun hs=>Nat.lt_irrefl _ (h.sLt _ hs)⟩)
 refine⟨.map (some w.heap.size),_,_,S,_,.inl ?_,hn'.mono gX,?_,?_⟩
 ·simp only[execOp,ho]
  simp[si]
 ·simp only[nJ,V.inU,C.inU]
  exact .inr ⟨Nat.le_refl _,by omega⟩
 ·simp only[nJ,vRep,av,cu]
theorem vN {o:Oper} {t:TypeId} {x k y:Operand} {ox ok:O} {str:Bool} {nid:Nat} (ho:o.op=.mapUpdate t x k y) (hx:aI x ox=true) (hk:aI k ok=true) (hy:y=.const (.bool true)) (ht:tq P t=some str)
 (h:SimX φ S fp M w0 U N st a w) (he:jK str (st.ev ox) (st.ev ok) st=some st'):Out P o M w0 U N nid st' (.c .un) a w:=by
 obtain⟨hv,_⟩:=h.ev hx
 obtain⟨hvk,_⟩:=h.ev hk
 obtain⟨kt,et,hu,hz,hkt⟩:=pD ht
 subst hy
 have fin:∀{id b:Nat} {e e':Ent} {w':World} {es':Array MapEntry} {ck':Nat},st.ent id=some e→fp id=[b]→b<w.heap.size→w'={w with heap:=w.heap.setIfInBounds b (.map es' ck')}→e'.inU U→entRep w' S φ (φ id) e' [b]→
  (Instr.mapUpdate t (a.eval x) (a.eval k) (.bool true)).run P w=.ok () w'→Out P o M w0 U N nid (st.set id e') (.c .un) a w:=by
  intro id b e e' w' es' ck' hent hfp hb hw' heU hrep hrun
  have hs:=h.upd (w':=w') hent (F:=[b]) (by rw[hw']) (by rw[hw']) (by rw[hw']) (by rw[hw'];simp) (fun c hc hne=>by
   rw[hfp] at hne
   rw[hw']
   simp only[List.mem_singleton] at hne
   simp[Array.getElem?_setIfInBounds,Ne.symm hne]) heU hrep (by simp) (fun c hc=>.inl (by rw[hfp];exact hc))
  refine⟨undef,w',φ,S,_,.inr ⟨?_,rfl⟩,hs.mono (fun _=>.inl),by simp[V.inU,C.inU],by simp[vRep,av]⟩
  simp only[execOp,ho,Act.eval] at hrun ⊢
  rw[Sem.run_bind,hrun]
  rfl
 unfold jK at he
 split at he
 ·rename_i id n e1 e2
  rw[e1] at hv;rw[e2] at hvk
  split at he
  ·rename_i l hent
   cases he
   obtain⟨_,_,⟨b,es,ck,q1,q2,q3,q4⟩,_,q5⟩:=h.ents id _ hent
   simp only[vRep,av] at hv
   obtain⟨es',ck',r1,r2⟩:=jM hu (pu hkt) q2 q3 n
   have hb:b<w.heap.size:=(q5 b (by rw[q4];simp)).2.1
   refine fin (es':=es') (ck':=ck') hent q4 hb rfl trivial ⟨b,es',ck',q1,by simp[hb],?_,rfl⟩ (by rw[hv,q1,(bh hvk).1];exact r1)
   rw[r2];rfl
  ·cases he
 ·rename_i id n e1 e2
  rw[e1] at hv;rw[e2] at hvk
  split at he
  ·rename_i l hent
   cases he
   obtain⟨_,_,⟨b,es,ck,q1,q2,q3,q4⟩,_,q5⟩:=h.ents id _ hent
   simp only[vRep,av] at hv
   obtain⟨es',ck',r1,r2⟩:=jM hu (qi hkt) q2 q3 n
   have hb:b<w.heap.size:=(q5 b (by rw[q4];simp)).2.1
   refine fin (es':=es') (ck':=ck') hent q4 hb rfl trivial ⟨b,es',ck',q1,by simp[hb],?_,rfl⟩ (by rw[hv,q1,(bh hvk).1];exact r1)
   rw[r2];rfl
  ·cases he
 ·cases he
end
end Go.Vs
namespace Go.Vs
open Go.RowKit
def oa (nid k:Nat) (xs:List O) (st:St):Option (V×St):=
 (cV k st (xs.map st.ev)).map fun p=>(.c (.r (.s k (toRdss p.1))),p.2.kill nid)
def qc (nid k:Nat) (m:Option Int) (st:St):V→Option (V×St)
 |.c (.f id k' 0 n)=>match st.ent id,m with
  |some (.arr k2 es),some m=>if k'=k∧k2=k∧0≤m∧m≤n∧m.toNat≤es.length then some (.c (.f nid k 0 m.toNat),(st.kill id).set nid (.arr k (es.take m.toNat))) else none
  |_,_=>none
 |_=>none
section
variable {φ:Nat→Value} {S:Nat→Prop} {fp:Nat→List Nat} {M:MS} {w0:World} {U:Nat→Prop} {N:Nat} {st st':St} {a:Act} {w w':World} {P:Program}
theorem SimX.freeze (h:SimX φ S fp M w0 U N st a w) {id:Nat} {e:Ent} (he:st.ent id=some e):SimX φ (fun b=>S b∨b∈fp id) fp M w0 U N (st.kill id) a w:=by
 obtain⟨u1,u2,u3,u4,u5⟩:=h.ents id _ he
 refine⟨h.defers,h.size,h.os,h.tape,h.output,h.grow,h.old,fun b hb hlt=>?_,fun b hb=>hb.elim (h.sLt b) (fun hb=>(u5 b hb).2.1),fun i e' he'=>?_,fun i e1 i' e2 h1 h2 hne b hb=>?_,fun t=>?_,h.pin⟩
 ·rcases hb with hb|hb
  ·exact h.sIn b hb hlt
  ·rcases(u5 b hb).1 with x|x
   ·omega
   ·exact .inr x
 ·rw[ax] at he'
  by_cases hi:i=id
  ·rw[if_pos hi] at he';cases he'
  ·rw[if_neg hi] at he'
   obtain⟨v1,v2,v3,v4,v5⟩:=h.ents i e' he'
   exact⟨v1,v2,dq (U:=U) (fun _ hb=>.inl hb) (fun _ _=>rfl) (fun _ _=>rfl) e' _ v2 (fun _ _=>rfl) v3,v4,fun b hb=>⟨(v5 b hb).1,(v5 b hb).2.1,fun hs=>hs.elim (v5 b hb).2.2 (fun hb'=>h.disj i _ id _ he' he hi b hb hb')⟩⟩
 ·rw[ax] at h1 h2
  split at h1
  ·cases h1
  ·split at h2
   ·cases h2
   ·exact h.disj i e1 i' e2 h1 h2 hne b hb
 ·obtain⟨h1,h2,h3⟩:=h.slots t
  exact⟨h1,h2,cE (U:=U) (fun _ hb=>.inl hb) (fun _ _=>rfl) (fun _ _=>rfl) _ _ h1 h3⟩
theorem tn {o:Oper} {t e:TypeId} {n:Nat} {parts:Array (Nat×Operand)} {xs:List O} {k bytes nid:Nat} {v:V} (ho:o.op=.buildSlice t n parts) (hp:em parts.toList 0 xs=true) (hnl:n=xs.length) (hlim:n*k≤16777216∧n≤16777216)
 (ht:ec P t=some e) (hk:elT P e=some (k,bytes)) (h:SimX φ S fp M w0 U N st a w) (hn:¬U nid) (he:oa nid k xs st=some (v,st')):Out P o M w0 U N nid st' v a w:=by
 simp only[oa,Option.map_eq_some_iff] at he
 obtain⟨⟨es,st1⟩,hab,he2⟩:=he
 simp only[Prod.mk.injEq] at he2
 obtain⟨rfl,rfl⟩:=he2
 have hb:lY nid k xs st=some (.c (.f nid k 0 xs.length),st1.set nid (.arr k es)):=by simp[lY,hab]
 obtain⟨ys,p1,p2,p3,p4⟩:=jV h _ _ _ hp
 have hel:es.length=xs.length:=by
  obtain⟨F,b1,b2,b3,b4,b5,b6,b7,b8⟩:=ig _ _ _ _ _ hab h p2
  rw[b8,List.length_map]
 obtain⟨y,w',φ',S',fp',hrun,hsim,hu,hv⟩:=pV ho hp hnl hlim ht hk h hn hb
 have hent:(st1.set nid (.arr k es)).ent nid=some (.arr k es):=by rw[bq,if_pos rfl]
 have hsim2:=(hsim.freeze hent).congr (st':=st1.kill nid) (fun _=>rfl) (fun i=>by
  rw[ax,ax,bq]
  split<;>rfl)
 refine⟨y,w',φ',_,fp',hrun,hsim2,by simp[V.inU,C.inU],?_⟩
 simp only[vRep,av] at hv ⊢
 obtain⟨ys',F,ad,c,hy,hnc,hcm,g3,hF,hlen,hpos⟩:=pm hsim hent (lo:=0) (n:=xs.length) (by omega) (by simpa only[av] using hv)
 subst hy
 simp only[List.drop_zero] at g3 hlen
 rw[List.take_of_length_le (by omega)] at g3 hlen
 simp only[aY]
 have hl:(toRdss es).length=xs.length:=by rw[kq,List.length_map,hel]
 refine⟨ad,c,by rw[hl],by rw[hl];exact hnc,hcm,fun hne=>?_⟩
 have hn0:0<xs.length:=by rw[←hl];exact List.length_pos_iff.2 hne
 obtain⟨b,rfl,hb',hcell⟩:=hpos hn0
 exact⟨b,0*k,rfl,.inr hb',kK (fun _ hs=>.inl hs) k _ ys' F b _ g3 (fun b' hb'=>.inr (hF b' hb')) hcell⟩
theorem wk {o:Oper} {t e:TypeId} {x hi:Operand} {ox oh:O} {k nid:Nat} {v:V} (ho:o.op=.slice t x none (some hi) none) (hx:aI x ox=true) (hh:aI hi oh=true)
 (ht:ec P t=some e) (hk:szT P e=some k) (h:SimX φ S fp M w0 U N st a w) (hn:¬U nid) (he:qc nid k (g7 (st.ev oh)) st (st.ev ox)=some (v,st')):Out P o M w0 U N nid st' v a w:=by
 unfold qc at he
 split at he
 ·rename_i id k' n e1
  split at he
  ·rename_i k2 es m hent hm
   split at he
   ·rename_i hc
    obtain⟨hk1,hk2,m0,mn,me⟩:=hc
    have hk1:=hk1.symm
    have hk2:=hk2.symm
    subst hk1
    subst hk2
    cases he
    obtain⟨hv,hu⟩:=h.ev hx
    obtain⟨hvh,_⟩:=h.ev hh
    obtain⟨kd,hkd⟩:=gJ hm hvh
    rw[e1] at hv hu
    obtain⟨ad,c,hy,hnc,hcm⟩:=dJ hv
    have hr:=jN (P:=P) (w:=w) ht hk (lo:=(none:Option Operand).map a.eval) (hi:=(some hi).map a.eval) (l:=0) (h:=m) (.inl ⟨rfl,rfl⟩) (.inr ⟨kd,by simp[hkd]⟩) (Int.le_refl _) m0 mn hnc (ad:=ad)
    obtain⟨u1,u2,u3,u4,u5⟩:=h.ents id _ hent
    obtain⟨ty,xs,fps,o1,o2,o5⟩:=u3
    have hsp:es=es.take m.toNat++es.drop m.toNat:=(List.take_append_drop _ _).symm
    rw[hsp] at o2
    obtain⟨x1,x2,F1,F2,hxs,hfs,d1,d2⟩:=cg _ _ _ _ o2
    have l1:=bn _ _ _ d1
    rw[List.length_take,Nat.min_eq_left me] at l1
    have hfree:∀b∈fp id,aT S fp M w0 (st.kill id) w b:=fun b hb=>⟨(u5 b hb).1,(u5 b hb).2.1,(u5 b hb).2.2,fun i e1 h1=>by
     rw[ax] at h1
     by_cases hi:i=id
     ·rw[if_pos hi] at h1;cases h1
     ·rw[if_neg hi] at h1;exact h.disj id _ i e1 hent h1 (Ne.symm hi) b hb⟩
    have hz:(Int.toNat 0)=0:=rfl
    have hy2:(Value.slice (if c=Int.toNat 0 then ad else ad.map (·.add (Int.toNat 0*k))) (m.toNat-Int.toNat 0) (c-Int.toNat 0))=.slice ad m.toNat c:=by
     rw[hz]
     by_cases hc0:c=0
     ·simp[hc0]
     ·cases ad with
      |none=>simp[hc0]
      |some ad=>simp[hc0,Addr.add]
    rw[hy2] at hr
    have hmc:m.toNat≤c:=by omega
    have hcase:(ad=none∧c=0∧φ id=.slice none 0 0)∨∃b N',ad=some ⟨b,0,none⟩∧Hd (φ id) b N' c:=by
     simp only[vRep,av] at hv
     rcases hv with⟨_,h0,hφ,hyy⟩|⟨_,b,N',cap,hh,hyy,_⟩|⟨hlt,_⟩
     ·rw[hy] at hyy;cases hyy;exact .inl ⟨rfl,rfl,hφ⟩
     ·rw[hy] at hyy;cases hyy;exact .inr ⟨b,N',rfl,hh⟩
     ·omega
    have hob:(Value.slice ad m.toNat c).ownBlock.toList=(φ id).ownBlock.toList:=by
     rcases hcase with⟨rfl,rfl,hφ⟩|⟨b,N',rfl,hh⟩
     ·rw[hφ];rfl
     ·rw[hh];rfl
    have hown:w.ownsRow 0 ty k (.slice ad m.toNat c) m.toNat x1:=by
     rcases hcase with⟨rfl,rfl,hφ⟩|⟨b,N',rfl,hh⟩
     ·have hm0:m.toNat=0:=by omega
      rw[hm0] at l1 ⊢
      rw[show x1=[] from List.eq_nil_of_length_eq_zero (by omega)]
      exact World.ownsRow_nil w _ ty k
     ·rw[hh] at o1
      obtain⟨hl,hor⟩:=o1
      refine⟨l1,.inr ?_⟩
      rcases hor with⟨q1,q2⟩|⟨b',cap',r,q1,q2,q3,q4,q5,q6,q7⟩
      ·cases q1
      ·cases q1
       refine⟨_,_,r,rfl,q2,q3,hmc,q5,q6,?_⟩
       have:r.toList.take (m.toNat*k)=(r.toList.take (es.length*k)).take (m.toNat*k):=by
        rw[List.take_take,Nat.min_eq_left (Nat.mul_le_mul_right k me)]
       rw[this,q7,hxs,←l1,List.take_left]
    have hFs:∀b∈(φ id).ownBlock.toList++F1,b∈fp id:=fun b hb=>by
     rw[o5,hfs]
     simp only[List.mem_append] at hb ⊢
     rcases hb with hb|hb
     ·exact .inl hb
     ·exact .inr (.inl hb)
    have hnk:(st.kill id).ent nid=none:=by
     rw[ax]
     split
     ·rfl
     ·cases hq:st.ent nid with
      |none=>rfl
      |some e0=>exact absurd (h.ents nid _ hq).1 hn
    have hnd:((φ id).ownBlock.toList++F1).Nodup:=by
     rw[o5,hfs,←List.append_assoc] at u4
     exact(List.nodup_append.1 u4).1
    have:=(h.kill id).put_ent (w':=w) (id:=nid) (e:=.arr k (es.take m.toNat)) (hd:=.slice ad m.toNat c) (F:=(φ id).ownBlock.toList++F1) (S':=S) (fun i hi=>bV _ _ (fun e=>hn (e▸hi))) hnk rfl rfl rfl (Nat.le_refl _)
     (fun _ _ _=>rfl) (fun _ hb=>hb) (fun b hb=>.inl hb) trivial
     ⟨ty,x1,F1,by rw[List.length_take,Nat.min_eq_left me];exact hown,d1,by rw[hob]⟩ hnd (fun b hb=>⟨(u5 b (hFs b hb)).2.2,.inl (hfree b (hFs b hb))⟩)
    refine⟨.slice ad m.toNat c,w,_,S,_,.inl ?_,this.mono gX,?_,?_⟩
    ·simp only[execOp,ho,hy]
     rw[show Option.map a.eval (none:Option Operand)=none from rfl] at hr ⊢
     rw[Sem.run_bind,hr]
     rfl
    ·simp only[V.inU,C.inU];exact .inr ⟨Nat.le_refl _,by omega⟩
    ·simp only[vRep,av]
     rcases hcase with⟨rfl,rfl,hφ⟩|⟨b,N',rfl,hh⟩
     ·have hm0:m.toNat=0:=by omega
      rw[hm0]
      exact .inl ⟨trivial,rfl,by rw[cu],rfl⟩
     ·exact .inr (.inl ⟨trivial,b,m.toNat,c,by rw[cu];rfl,rfl,hmc,hcm⟩)
   ·cases he
  ·cases he
 ·cases he
end
end Go.Vs
namespace Go.Vs
open Go.RowKit
def mO:List C→Option (List R)
 |[]=>some []
 |.r x::cs=>(mO cs).map (x:: ·)
 |.n k::cs=>(mO cs).map (.s k []:: ·)
 |_=>none
def mL:St→List V→Option (List (List R)×St)
 |st,[]=>some ([],st)
 |st,.c (.p id k i off)::vs=>match iI st id k with
  |some cs=>if i=0∧off=0 then(match mO cs with
   |some rs=>(mL (st.kill id) vs).map fun p=>(rs::p.1,p.2)
   |none=>none) else none
  |none=>none
 |_,_=>none
def px (g:Nat) (vs:List V) (st:St):Option (V×St):=(mL st vs).map fun p=>(.c (.r (.fn g p.1)),p.2)
def vcs:List V→Option (List C)
 |[]=>some []
 |.c c::vs=>(vcs vs).map (c:: ·)
 |_=>none
def nR (g:Nat) (vs:List V):Option V:=(vcs vs).map fun cs=>.clo g cs
def uj (t:Nat):V→Option V
 |.c c=>some (.ifc t c)
 |_=>none
def Au (P:Program) (t:TypeId):Bool:=match P.underlying t with
 |some (.interface _)=>false
 |some _=>true
 |none=>false
def bsR:List (List R)→Option (List Int)
 |[]=>some []
 |[.v (.int .u8 n)]::es=>(bsR es).map (n:: ·)
 |_=>none
def n4 (st:St):V→Option V
 |.c c=>match im st c with
  |some (.s 1 es)=>(bsR es).map fun ns=>V.v (.string (strOfNums ns))
  |_=>none
 |_=>none
def Aj (P:Program) (s d:TypeId):Bool:=match P.underlying s,P.underlying d with
 |some (.slice e),some .string=>(match P.underlying e with
  |some (.int .u8)=>true
  |_=>false)
 |_,_=>false
def sf (mx:Bool):V→V→Option V
 |.c (.r (.v (.int k x))),.c (.r (.v (.int _ y)))=>some (V.v (.int k (if mx=true then max x y else min x y)))
 |_,_=>none
def AE (P:Program) (f:FuncId) (t g k:Nat) (es es':List (List D)):Prop:=
 es'.length=es.length∧∀(w:World) (S0:Nat→Prop) (y0:Value) (bb:Nat) (F:List Nat),(∀b,S0 b→b<w.heap.size∧b∉F)→cv w S0 (.o k es) y0 F→F.Nodup→(∀b∈F,b<w.heap.size)→
  bb∉F→bb<w.heap.size→w.cell? ⟨bb,0,none⟩=some y0→Keeps P F w→
  Calls P f #[.iface t y0,.func (.func g) #[] #[.pointer (some ⟨bb,0,none⟩)]] w fun e w'=>∃F' S',e=.returned (.tuple #[])∧cv w' (fun b=>S0 b∨S' b) (.o k es') y0 F'∧LeftM w w' F [] F' S'
inductive Cal where
 |ro (as:List A)
 |mu (a0:AM) (as:List A) (a0':AM)
 |cl (as:List A)
 |ss (t g k:Nat) (es es':List (List D))
def FnU (P:Program) (f:FuncId) (c:Cal) (x:X):Prop:=match c with
 |.ro as=>Fn P f as x
 |.mu a0 as a0'=>FnM P f a0 as x a0'
 |.cl as=>fZ P f=true∧Fn P f as x
 |.ss t g k es es'=>AE P f t g k es es'
def mG (st:St):V→V→Option (Nat×Nat×Nat×Nat×List (List D))
 |.ifc t (.f id k 0 n),.clo g [.p bid 1 0 0]=>match st.ent id,st.ent bid with
  |some (.arr k' es),some (.foc 1 [] [.f id' k2 0 n'] [])=>if k'=k∧n=es.length∧id'=id∧k2=k∧n'=n then some (t,g,k,id,es) else none
  |_,_=>none
 |_,_=>none
section
variable {φ:Nat→Value} {S:Nat→Prop} {fp:Nat→List Nat} {M:MS} {w0:World} {U:Nat→Prop} {N:Nat} {st st':St} {a:Act} {w w':World} {P:Program}
theorem oA {b:Nat}:∀{cs:List C} {rs:List R} {ys:List Value} {o:Nat},mO cs=some rs→ar w S φ cs ys→(∀j u,ys[j]?=some u→w.cell? ⟨b,o+j,none⟩=some u)→aJ w S b o rs
 |[],rs,ys,o,h,_,_=>by simp[mO] at h;subst h;simp[aJ]
 |c::cs,rs,ys,o,h,hr,hc=>by
  obtain⟨z,zs,rfl,hz,hzs⟩:=hr
  have tl:∀rs',mO cs=some rs'→aJ w S b (o+1) rs':=fun rs' h'=>oA h' hzs (fun j u hj=>by
   rw[show o+1+j=o+(j+1) from by omega];exact hc (j+1) u (by simpa using hj))
  have h0:w.cell? ⟨b,o,none⟩=some z:=by simpa using hc 0 z rfl
  cases c with
  |r x=>
   simp only[mO,Option.map_eq_some_iff] at h
   obtain⟨rs',h1,rfl⟩:=h
   simp only[aJ]
   exact⟨⟨z,h0,by simpa [av] using hz⟩,tl rs' h1⟩
  |n k=>
   simp only[mO,Option.map_eq_some_iff] at h
   obtain⟨rs',h1,rfl⟩:=h
   simp only[aJ]
   simp only[av] at hz
   subst hz
   exact⟨⟨_,h0,by simp only[aY];exact⟨none,0,rfl,Nat.le_refl _,Nat.zero_le _,by simp⟩⟩,tl rs' h1⟩
  |f id k lo n=>simp[mO] at h
  |p id k i off=>simp[mO] at h
  |un=>simp[mO] at h
  |m id=>simp[mO] at h
theorem vP {id k:Nat} {cs:List C} (h:iI st id k=some cs):st.ent id=some (.foc k [] cs []):=hJ h
theorem pM:∀(vs:List V) {st st':St} {S:Nat→Prop} {bs:List (List R)} {ys:List Value},SimX φ S fp M w0 U N st a w→aQ w S φ vs ys→mL st vs=some (bs,st')→
 ∃S',(∀b,S b→S' b)∧SimX φ S' fp M w0 U N st' a w∧dT w S' bs ys
 |[],st,st',S,bs,ys,h,hv,hc=>by
  simp[mL] at hc
  obtain⟨rfl,rfl⟩:=hc
  simp[aQ] at hv
  subst hv
  exact⟨S,fun _ hb=>hb,h,by simp[dT]⟩
 |v::vs,st,st',S,bs,ys,h,hv,hc=>by
  simp only[aQ] at hv
  obtain⟨z,zs,rfl,hz,hzs⟩:=hv
  unfold mL at hc
  split at hc
  ·simp_all
  ·rename_i id k i off vs' heq
   simp only[List.cons.injEq] at heq
   obtain⟨rfl,rfl⟩:=heq
   split at hc
   ·rename_i cs hbx
    have he:=vP hbx
    split at hc
    ·rename_i hio
     obtain⟨rfl,rfl⟩:=hio
     split at hc
     ·rename_i rs hrs
      simp only[Option.map_eq_some_iff] at hc
      obtain⟨⟨bs',s'⟩,h1,h2⟩:=hc
      simp only[Prod.mk.injEq] at h2
      obtain⟨rfl,rfl⟩:=h2
      obtain⟨u1,u2,u3,u4,u5⟩:=h.ents id _ he
      obtain⟨ty,x1,xs,x2,f1,f2,o1,o2,o3,o4,o5⟩:=u3
      simp only[an] at o2 o4
      obtain⟨rfl,rfl⟩:=o2
      obtain⟨rfl,rfl⟩:=o4
      simp only[List.nil_append,List.append_nil,List.length_nil,Nat.zero_add,Nat.add_zero] at o1 o5
      simp only[vRep,av] at hz
      obtain⟨b,N',cap,hHd,rfl⟩:=hz
      have hb:b∈fp id:=by rw[o5];simp[bf hHd]
      obtain⟨S',q1,q2,q3⟩:=pM vs (h.freeze he) (ys:=zs) (by
       have:∀(vs:List V) (zs:List Value),aQ w S φ vs zs→aQ w (fun b=>S b∨b∈fp id) φ vs zs:=by
        intro vs
        induction vs with
        |nil=>intro zs hh;simpa [aQ] using hh
        |cons v vs ih=>
         intro zs hh
         simp only[aQ] at hh ⊢
         obtain⟨y,ys,e1,e2,e3⟩:=hh
         exact⟨y,ys,e1,cE (U:=fun _=>True) (fun _ hb=>.inl hb) (fun _ _=>rfl) (fun _ _=>rfl) v y (inU_all v) e2,ih ys e3⟩
       exact this vs zs hzs) h1
      refine⟨S',fun b hb=>q1 b (.inl hb),q2,?_⟩
      simp only[dT]
      refine⟨b,0,zs,by simp,fun _=>q1 b (.inr hb),?_,q3⟩
      refine oA (φ:=φ) hrs ?_ (fun j u hj=>by rw[Nat.zero_add];exact e7 o1 hHd hj)
      exact cB (U:=fun _=>True) (fun b hb=>q1 b (.inl hb)) (fun _ _=>rfl) (fun _ _=>rfl) cs xs (insU_all cs) o3.2
     ·cases hc
    ·cases hc
   ·cases hc
  ·cases hc
where
 inU_c:∀c:C,c.inU fun _=>True:=fun c=>by cases c<;>trivial
 insU_all:∀cs:List C,Cs.inU (fun _=>True) cs:=fun cs=>by
  induction cs with
  |nil=>trivial
  |cons c cs ih=>exact⟨inU_c c,ih⟩
 inU_all:∀v:V,v.inU fun _=>True:=fun v=>by
  refine V.rec (motive_1:=fun v=>v.inU fun _=>True) (motive_2:=fun vs=>V.insU (fun _=>True) vs) ?_ ?_ ?_ ?_ ?_ ?_ ?_ ?_ v
  ·intro x;simp only[V.inU];exact inU_c x
  ·intro cs;simp only[V.inU];exact insU_all cs
  ·intro vs h;simpa only[V.inU] using h
  ·intro cs;simp[V.inU]
  ·intro t x;simp only[V.inU];exact inU_c x
  ·intro g cs;simp only[V.inU];exact insU_all cs
  ·simp[V.insU]
  ·intro v vs h1 h2;simp only[V.insU];exact⟨h1,h2⟩
theorem nG (h:SimX φ S fp M w0 U N st a w):∀{xs:List Operand} {os:List O},cG xs os=true→aQ w S φ (os.map st.ev) (xs.map a.eval)∧V.insU U (os.map st.ev)
 |[],[],_=>by simp[aQ,V.insU]
 |x::xs,ox::os,hf=>by
  simp only[cG,Bool.and_eq_true] at hf
  obtain⟨hv,hu⟩:=h.ev hf.1
  obtain⟨h1,h2⟩:=nG h hf.2
  simp only[List.map_cons,aQ,V.insU]
  exact⟨⟨_,_,rfl,hv,h1⟩,hu,h2⟩
 |[],_::_,hf=>by simp[cG] at hf
 |_::_,[],hf=>by simp[cG] at hf
theorem vT {o:Oper} {g:Nat} {fs cs:Array Operand} {xs:List O} {nid:Nat} {v:V} (ho:o.op=.makeFunc (.func g) fs cs) (hfs:fs.toList=[]) (hx:cG cs.toList xs=true) (h:SimX φ S fp M w0 U N st a w) (he:px g (xs.map st.ev) st=some (v,st')):Out P o M w0 U N nid st' v a w:=by
 have e0:fs=#[]:=Array.ext' hfs
 subst e0
 simp only[px,Option.map_eq_some_iff] at he
 obtain⟨⟨bs,s⟩,h1,h2⟩:=he
 simp only[Prod.mk.injEq] at h2
 obtain⟨rfl,rfl⟩:=h2
 obtain⟨hvs,_⟩:=nG h hx
 obtain⟨S',q1,q2,q3⟩:=pM _ h hvs h1
 refine⟨.func (.func g) #[] (cs.map a.eval),w,φ,S',fp,.inl ?_,q2.mono (fun _=>.inl),by simp[V.inU,C.inU],?_⟩
 ·simp[execOp,ho,Instr.makeFunc]
 ·simp only[vRep,av,aY]
  refine⟨cs.toList.map a.eval,?_,q3⟩
  congr 1
  apply Array.ext'
  simp
theorem sK:∀{vs:List V} {cs:List C} {ys:List Value},vcs vs=some cs→aQ w S φ vs ys→V.insU U vs→ar w S φ cs ys∧Cs.inU U cs
 |[],cs,ys,h,hv,_=>by
  simp[vcs] at h
  subst h
  simp[aQ] at hv
  subst hv
  exact⟨rfl,trivial⟩
 |v::vs,cs,ys,h,hv,hu=>by
  simp only[aQ] at hv
  obtain⟨z,zs,rfl,hz,hzs⟩:=hv
  simp only[V.insU] at hu
  cases v with
  |c c=>
   simp only[vcs,Option.map_eq_some_iff] at h
   obtain⟨cs',h1,rfl⟩:=h
   obtain⟨a1,a2⟩:=sK h1 hzs hu.2
   simp only[vRep] at hz
   simp only[V.inU] at hu
   exact⟨⟨z,zs,rfl,hz,a1⟩,hu.1,a2⟩
  |_=>simp[vcs] at h
theorem tC {o:Oper} {g:Nat} {fs cs:Array Operand} {xs:List O} {nid:Nat} {v:V} (ho:o.op=.makeFunc (.func g) fs cs) (hfs:fs.toList=[]) (hx:cG cs.toList xs=true) (h:SimX φ S fp M w0 U N st a w) (he:nR g (xs.map st.ev)=some v):Out P o M w0 U N nid st v a w:=by
 have e0:fs=#[]:=Array.ext' hfs
 subst e0
 simp only[nR,Option.map_eq_some_iff] at he
 obtain⟨ds,h1,rfl⟩:=he
 obtain⟨hvs,hus⟩:=nG h hx
 obtain⟨q1,q2⟩:=sK h1 hvs hus
 refine⟨.func (.func g) #[] (cs.map a.eval),w,φ,S,fp,.inl ?_,h.mono (fun _=>.inl),?_,?_⟩
 ·simp[execOp,ho,Instr.makeFunc]
 ·simp only[V.inU];exact dv (fun _=>.inl) ds q2
 ·simp only[vRep]
  refine⟨cs.toList.map a.eval,?_,q1⟩
  congr 1
  apply Array.ext'
  simp
theorem vz {o:Oper} {t:Nat} {x:Operand} {ox:O} {nid:Nat} {v:V} (ho:o.op=.makeInterface t x) (hx:aI x ox=true) (ht:Au P t=true) (h:SimX φ S fp M w0 U N st a w) (he:uj t (st.ev ox)=some v):Out P o M w0 U N nid st v a w:=by
 obtain⟨hv,hu⟩:=h.ev hx
 unfold uj at he
 split at he
 ·rename_i c hc
  cases he
  rw[hc] at hv hu
  simp only[vRep,V.inU] at hv hu
  refine Out.pure (y:=.iface t (a.eval x)) h ?_ (by simpa only[V.inU] using hu) (by simp only[vRep];exact⟨_,rfl,hv⟩)
  unfold Au at ht
  split at ht
  ·cases ht
  ·rename_i d hd hne
   simp only[execOp,ho,Instr.makeInterface,Sem.run_bind,run_underlying hne,Result.andThen_ok]
   cases d<;>first|rfl|exact absurd rfl (hd _)
  ·cases ht
 ·cases he
theorem uS {o:Oper} {t1 t2:TypeId} {mx:Bool} {x y:Operand} {ox oy:O} {nid:Nat} {v:V} (ho:o.op=.call {callee:=.builtin (if mx then .max else .min),args:=#[x,y],argTypes:=#[t1,t2]}) (hx:aI x ox=true) (hy:aI y oy=true) (h:SimX φ S fp M w0 U N st a w) (he:sf mx (st.ev ox) (st.ev oy)=some v):Out P o M w0 U N nid st v a w:=by
 obtain⟨hv,_⟩:=h.ev hx
 obtain⟨hv2,_⟩:=h.ev hy
 unfold sf at he
 split at he
 ·rename_i k m k' n e1 e2
  cases he
  rw[e1] at hv
  rw[e2] at hv2
  refine Out.pure h ?_ fS (dB rfl)
  cases mx
  ·simp[execOp,ho,resolve,invoke,builtin,(bh hv).1,(bh hv2).1,run_min_int2,show(if n<m then n else m)=min m n from by omega]
  ·simp[execOp,ho,resolve,invoke,builtin,(bh hv).1,(bh hv2).1,run_max_int2,show(if n>m then n else m)=max m n from by omega]
 ·cases he
theorem pB {b:Nat}:∀{es:List (List R)} {ns:List Int} {o:Nat},bsR es=some ns→bv w S b 1 o es→ns.length=es.length∧∀i,i<ns.length→w.cell? ⟨b,o+i,none⟩=some (.int .u8 (ns.getD i 0))
 |[],ns,o,h,_=>by simp[bsR] at h;subst h;simp
 |e::es,ns,o,h,hr=>by
  unfold bsR at h
  split at h
  ·simp_all
  ·rename_i n es' heq
   simp only[List.cons.injEq] at heq
   obtain⟨rfl,rfl⟩:=heq
   simp only[Option.map_eq_some_iff] at h
   obtain⟨ns',h1,rfl⟩:=h
   simp only[bv,aJ] at hr
   obtain⟨⟨_,⟨y,hy,hyr⟩,_⟩,h2⟩:=hr
   simp only[aY] at hyr
   obtain⟨i1,i2⟩:=pB h1 h2
   refine⟨by simp[i1],fun i hi=>?_⟩
   cases i with
   |zero=>rw[Nat.add_zero,hy,hyr.1];rfl
   |succ i=>
    rw[show o+(i+1)=o+1+i from by omega]
    simpa using i2 i (by simpa using hi)
  ·cases h
theorem vQ {o:Oper} {s d:TypeId} {x:Operand} {ox:O} {nid:Nat} {v:V} (ho:o.op=.convert s d x) (hx:aI x ox=true) (ht:Aj P s d=true) (h:SimX φ S fp M w0 U N st a w) (he:n4 st (st.ev ox)=some v):Out P o M w0 U N nid st v a w:=by
 obtain⟨hv,_⟩:=h.ev hx
 unfold n4 at he
 split at he
 ·rename_i c hc
  rw[hc] at hv
  split at he
  ·rename_i es hr
   simp only[Option.map_eq_some_iff] at he
   obtain⟨ns,h1,rfl⟩:=he
   have hrep:=kc (T:=fun b=>b<w.heap.size) h (fun b hb=>h.sLt b hb) (fun id e he b hb=>((h.ents id e he).2.2.2.2 b hb).2.1) hr (by simpa only[vRep] using hv)
   simp only[aY] at hrep
   obtain⟨ad,cap,hy,_,_,hcell⟩:=hrep
   unfold Aj at ht
   split at ht
   ·rename_i e hs hd
    split at ht
    ·rename_i he'
     refine Out.pure h ?_ fS (dB rfl)
     simp only[execOp,ho,hy,Sem.run_bind]
     by_cases hne:es=[]
     ·subst hne
      simp[bsR] at h1
      subst h1
      cases ad with
      |none=>
       rw[show([]:List (List R)).length=0 from rfl,run_convert_bytes_nil w s e hs he' 0 cap d hd]
       rfl
      |some ad=>
       obtain⟨b,off,m⟩:=ad
       have:(Value.slice (some ⟨b,off,m⟩) ([]:List (List R)).length cap)=.slice (some ⟨b,off,m⟩) 0 cap:=rfl
       rw[this,run_convert_bytes_string w s d e _ 0 cap hs he' hd,run_bytesToString w _ 0 cap [] (by simpa using run_loadCells_list (P:=P) w ⟨b,off,m⟩ [] (by simp))]
       rfl
     ·obtain⟨b,off,rfl,_,hrows⟩:=hcell hne
      obtain⟨i1,i2⟩:=pB h1 hrows
      rw[run_convert_bytes_arg w s e hs he' b off es.length cap ns i1 (fun i hi=>i2 i (by omega)) d hd]
      rfl
    ·cases ht
   ·cases ht
  ·cases he
 ·cases he
theorem A6 {o:Oper} {f:FuncId} {args:Array Operand} {ats:Array TypeId} {ox oy:O} {t g k n id bid:Nat} {es es':List (List D)} {K:Act→World→Prop} {Q:Exit→Act→World→Prop}
 (ho:o.op=.call {callee:=.value (.func f),args:=args,argTypes:=ats}) (hf:fZ P f=true) (hx:cG args.toList [ox,oy]=true) (e1:st.ev ox=.ifc t (.f id k 0 n)) (e2:st.ev oy=.clo g [.p bid 1 0 0])
 (hid:st.ent id=some (.arr k es)) (hn:n=es.length) (hbx:st.ent bid=some (.foc 1 [] [.f id k 0 n] [])) (hss:AE P f t g k es es') (hL:Keeps P M.bl w0) (h:SimX φ S fp M w0 U N st a w)
 (hK:∀w' S2 fp2,SimX φ S2 fp2 M w0 U N (st.set id (.arr k es')) a w'→K (a.put o.dst (.tuple #[])) w'):o.wp P a w K Q:=by
 obtain⟨x,y,hxs,h1,h2⟩:∃x y,args.toList=[x,y]∧aI x ox=true∧aI y oy=true:=by
  cases hal:args.toList with
  |nil=>rw[hal] at hx;simp[cG] at hx
  |cons x xt=>
   cases xt with
   |nil=>rw[hal] at hx;simp[cG] at hx
   |cons y yt=>
    cases yt with
    |nil=>rw[hal] at hx;simp[cG] at hx;exact⟨x,y,rfl,hx.1,hx.2⟩
    |cons z zt=>rw[hal] at hx;simp[cG] at hx
 obtain⟨hv1,_⟩:=h.ev h1
 obtain⟨hv2,_⟩:=h.ev h2
 rw[e1] at hv1
 rw[e2] at hv2
 simp only[vRep] at hv1 hv2
 obtain⟨z,hz,hzr⟩:=hv1
 obtain⟨zs,hzs,u,us,rfl,hu,hus⟩:=hv2
 simp only[ar] at hus
 subst hus
 simp only[av] at hu
 obtain⟨bb,Nb,cb,hHb,rfl⟩:=hu
 have hab:ap st [.f id k 0 n]=some ([.o k es],st.kill id):=by simp[ap,hid,hn]
 have hcr:ar w S φ [.f id k 0 n] [z]:=⟨z,[],rfl,hzr,rfl⟩
 obtain⟨F,a1,a2,a3,a4,a5,a6⟩:=a9 _ _ _ _ _ hab h hcr
 have hhd:=fE hab h hcr
 obtain⟨y1,y2,hφ,hUid,hnone⟩:=hhd 0 id k 0 n rfl
 simp only[List.getElem?_cons_zero,Option.some.injEq] at y2
 subst y2
 simp only[ak] at a1
 obtain⟨z',zt,f1,f2,q1,rfl,a1,rfl,rfl⟩:=a1
 simp only[List.cons.injEq,and_true] at q1
 subst q1
 simp only[List.append_nil] at a2 a3
 have hne:bid≠id:=by intro e;subst e;rw[hid] at hbx;cases hbx
 obtain⟨b1,b2,b3,b4,b5⟩:=h.ents bid _ hbx
 obtain⟨ty,x1,xs,x2,g1,g2,o1,o2,o3,o4,o5⟩:=b3
 simp only[an] at o2 o4
 obtain⟨rfl,rfl⟩:=o2
 obtain⟨rfl,rfl⟩:=o4
 simp only[List.nil_append,List.append_nil,List.length_nil,Nat.zero_add,Nat.add_zero] at o1 o5
 obtain⟨_,hor⟩:=o3
 obtain⟨w1,ws,rfl,hw1,hws⟩:=hor
 simp only[ar] at hws
 subst hws
 have hw1e:w1=z:=by
  simp only[av] at hw1 hzr
  rcases hw1 with⟨_,r1,r2,r3⟩|⟨_,b',N',c',r1,r2,r3⟩|⟨r1,_⟩
  ·rcases hzr with⟨_,s1,s2,s3⟩|⟨_,b2',N2',c2',s1,s2,s3⟩|⟨s1,_⟩
   ·rw[r3,s3]
   ·rw[r2] at s1;cases s1
   ·omega
  ·rcases hzr with⟨_,s1,s2,s3⟩|⟨_,b2',N2',c2',s1,s2,s3⟩|⟨s1,_⟩
   ·rw[s2] at r1;cases r1
   ·rw[s1] at r1;cases r1;rw[r2,s2]
   ·omega
  ·omega
 subst hw1e
 have hcell:w.cell? ⟨bb,0,none⟩=some w1:=e7 o1 hHb rfl
 have hbbfp:bb∈fp bid:=by rw[o5];simp[bf hHb]
 have hkid:(st.kill id).ent bid=some (.foc 1 [] [.f id k 0 n] []):=by rw[ax,if_neg hne];exact hbx
 have hbbF:bb∉f1:=fun hm=>(a3 bb hm).2 bid _ hkid hbbfp
 have hFlt:∀b∈f1,b<w.heap.size:=fun b hb=>by
  obtain⟨⟨i,e,hi,hm⟩,_⟩:=a3 b hb
  exact((h.ents i e hi).2.2.2.2 b hm).2.1
 have hFS:∀b∈f1,¬S b:=fun b hb=>by
  obtain⟨⟨i,e,hi,hm⟩,_⟩:=a3 b hb
  exact((h.ents i e hi).2.2.2.2 b hm).2.2
 have hFM:∀b∈f1,w0.heap.size≤b∨b∈M:=fun b hb=>by
  obtain⟨⟨i,e,hi,hm⟩,_⟩:=a3 b hb
  exact((h.ents i e hi).2.2.2.2 b hm).1
 have hS0:∀b,S b→b<w.heap.size∧b∉f1:=fun b hb=>⟨h.sLt b hb,fun hm=>hFS b hm hb⟩
 have hcall:=hss.2 w S w1 bb f1 hS0 a1 a2 hFlt hbbF (b5 bb hbbfp).2.1 hcell (h.keeps hL hFM)
 have hrun:(execOp a.eval o).run P w=.ok (.enter f #[.iface t w1,.func (.func g) #[] #[.pointer (some ⟨bb,0,none⟩)]]) w:=by
  simp only[execOp,ho]
  have e0:(#[]++args.map a.eval++#[]:Array Value)=#[.iface t w1,.func (.func g) #[] #[.pointer (some ⟨bb,0,none⟩)]]:=by
   apply Array.ext'
   simp[hxs,hz,hzs]
  simp only[resolve,Act.eval,Deferred.ofValue,Sem.run_bind,Sem.run_pure,Result.andThen_ok,invoke]
  rw[e0,ez hf]
 unfold Oper.wp
 rw[hrun,Oper.upon_enter]
 refine hcall.mono fun e w' hpost=>?_
 obtain⟨F',S',rfl,hdr,hl⟩:=hpost
 have hfreeF:∀b∈f1,aT S fp M w0 (st.kill id) w b:=fun b hb=>⟨hFM b hb,hFlt b hb,hFS b hb,(a3 b hb).2⟩
 have h2':=a4.world2 (w':=w') (S':=fun b=>S b∨S' b) hl.os hl.tape hl.output hl.size (fun b hb hnf=>hl.block b hb (fun hm=>hnf (hfreeF b hm))) (fun _ hb=>.inl hb) (fun b hb=>by
  rcases hb with hb|hb
  ·exact .inl hb
  ·rcases(hl.ro b hb).1 with hm|hm
   ·exact .inr (.inl (hfreeF b hm))
   ·exact .inr (.inr ⟨hm,(hl.ro b hb).2⟩))
 have hfree:∀b∈F',aT (fun b=>S b∨S' b) fp M w0 (st.kill id) w' b:=fun b hb=>by
  obtain⟨e1,e2,e3⟩:=hl.own b (by simp[hb])
  refine⟨?_,e2,?_,fun i e he hm=>?_⟩
  ·rcases e1 with e1|e1
   ·exact hFM b e1
   ·exact .inl (Nat.le_trans h.grow e1)
  ·rintro(hs|hs)
   ·rcases e1 with e1|e1
    ·exact hFS b e1 hs
    ·have:=h.sLt b hs;omega
   ·exact e3 hs
  ·rcases e1 with e1|e1
   ·exact(a3 b e1).2 i e he hm
   ·have:=((a4.ents i e he).2.2.2.2 b hm).2.1;omega
 have hent:entRep w' (fun b=>S b∨S' b) φ (φ id) (.arr k es') F':=by
  rw[hφ]
  simp only[cv] at hdr;exact hdr
 have hb3:=h2'.back hUid hnone (e:=.arr k es') trivial hent (by simpa using hl.nodup) hfree
 exact hK w' _ _ (hb3.congr (fun _=>rfl) (fun i=>by
  rw[bq,bq,ax]
  split<;>rfl))
theorem ls:∀{as bs:List A} {ys zs:List Value},dR w S as ys→dR w S bs zs→dR w S (as++bs) (ys++zs)
 |[],bs,ys,zs,h1,h2=>by simp only[dR] at h1;subst h1;simpa using h2
 |x::as,bs,ys,zs,h1,h2=>by
  obtain⟨z,ys',rfl,hz,h3⟩:=h1
  exact⟨z,ys'++zs,rfl,hz,ls h3 h2⟩
theorem i4 {T:Nat→Prop} (hS:∀b,S b→T b):∀{bs:List (List R)} {lb:List Value},dT w S bs lb→dR w T (bs.map A.q) lb
 |[],lb,h=>by simp only[dT] at h;subst h;rfl
 |e::es,lb,h=>by
  simp only[dT] at h
  obtain⟨b,o,zs,rfl,h2,h3,h4⟩:=h
  refine⟨_,zs,rfl,⟨b,o,rfl,fun hne=>hS _ (h2 hne),?_⟩,i4 hS h4⟩
  match e,h2,h3 with
  |[],_,_=>simp[aJ]
  |r::rs,h2,h3=>exact du hS (fun _ _=>rfl) b o (r::rs) (h2 (by simp)) h3
theorem xP {o:Oper} {y:Operand} {oy:O} {g:FuncId} {bs:List (List R)} {args:Array Operand} {ats:Array TypeId} {xs:List O} {as:List A} {res:X} {own:Bool} {nid:Nat} {K:Act→World→Prop} {Q:Exit→Act→World→Prop}
 (ho:o.op=.call {callee:=.value y,args:=args,argTypes:=ats}) (hy:aI y oy=true) (he:st.ev oy=.c (.r (.fn g bs))) (hf:fZ P g=true) (hx:cG args.toList xs=true) (has:gK st xs=some as) (hfn:Fn P g (as++bs.map A.q) res) (hld:fi st xs=false∨res.fresh=true) (hc:res.count≤16)
 (hL:Keeps P M.bl w0) (h:SimX φ S fp M w0 U N st a w) (hn:∀c,nid≤c→c<nid+16→¬U c)
 (hK:∀y w' φ2 S2 fp2,SimX φ2 S2 fp2 M w0 (iy U nid) N (bT own nid st res).2 a w'→(bT own nid st res).1.inU (iy U nid)→vRep w' S2 φ2 (bT own nid st res).1 y→K (a.put o.dst y) w'):o.wp P a w K Q:=by
 obtain⟨hv,_⟩:=h.ev hy
 rw[he] at hv
 simp only[vRep,av,aY] at hv
 obtain⟨lb,hyv,hbx⟩:=hv
 have hcall:Calls P g (args.toList.map a.eval++lb).toArray w fun e w'=>∃y F S',e=.returned y∧cF w' (fun b=>S b∨S' b) res y F∧Left w w' F S':=by
  rcases hld with hld|hld
  ·have h0:SimX φ S fp M w0 U N {st with tab:=[]} a w:={h with
    ents:=fun id e he=>by simp[St.ent,aB] at he
    disj:=fun id e id' e' he=>by simp[St.ent,aB] at he}
   have har:=fP (T:=S) h0 (fun b hb=>hb) (fun id e he=>by simp[St.ent,aB] at he) _ _ as hx ((mY (st:=st) {st with tab:=[]} rfl hld).trans has)
   exact hfn w S _ h.sLt (ls har (i4 (fun _ hb=>hb) hbx)) (h.laid hL)
  ·have har:=pF h _ _ _ hx has
   refine(hfn w (fun b=>b<w.heap.size) _ (fun _ hb=>hb) (ls har (i4 (fun b hb=>h.sLt b hb) hbx)) (h.laid hL)).mono fun e w' hp=>?_
   obtain⟨y,F,S',h1,h2,h3⟩:=hp
   exact⟨y,F,S',h1,iK res y F hld h2,h3⟩
 have hrun:(execOp a.eval o).run P w=.ok (.enter g (args.toList.map a.eval++lb).toArray) w:=by
  simp only[execOp,ho]
  have:(#[]++args.map a.eval++lb.toArray:Array Value)=(args.toList.map a.eval++lb).toArray:=by
   apply Array.ext'
   simp
  simp only[resolve,hyv,Deferred.ofValue,Sem.run_bind,Sem.run_pure,Result.andThen_ok,invoke]
  rw[←this,ez hf]
 unfold Oper.wp
 rw[hrun,Oper.upon_enter]
 refine hcall.mono fun e w' hpost=>?_
 obtain⟨y,F,S',rfl,hxr,hl⟩:=hpost
 obtain⟨φ2,S2,fp2,b1,b2,b3⟩:=pI (own:=own) h hn hc hxr hl
 exact hK y w' φ2 S2 fp2 b1 b2 b3
theorem tA {x y:V} {p:Nat×Nat×Nat×Nat×List (List D)} (h:mG st x y=some p):∃n bid,x=.ifc p.1 (.f p.2.2.2.1 p.2.2.1 0 n)∧y=.clo p.2.1 [.p bid 1 0 0]∧st.ent p.2.2.2.1=some (.arr p.2.2.1 p.2.2.2.2)∧n=p.2.2.2.2.length∧st.ent bid=some (.foc 1 [] [.f p.2.2.2.1 p.2.2.1 0 n] []):=by
 unfold mG at h
 split at h
 ·rename_i t id k n g bid
  split at h
  ·rename_i k' es id' k2 n' h1 h2
   split at h
   ·rename_i hc
    obtain⟨rfl,rfl,rfl,rfl,rfl⟩:=hc
    cases h
    exact⟨_,bid,rfl,rfl,h1,rfl,h2⟩
   ·cases h
  ·cases h
 ·cases h
end
end Go.Vs
namespace Go.Vs
open Go.RowKit
inductive I where
 |mv (x:O)
 |alloc (cs:List C)
 |box (x:O)
 |ld (agg:Bool) (k:Nat) (p:O)
 |st (k:Nat) (p x:O)
 |fa (off:Nat) (p:O)
 |fld (agg:Bool) (off k:Nat) (x:O)
 |ia (k:Nat) (x i:O)
 |idx (x i:O)
 |bin (op:BinOp) (kd:Kd) (x y:O)
 |eqs (neg:Bool) (ks:List Kd) (x y:O)
 |not (x:O)
 |neg (x:O)
 |len (str:Bool) (x:O)
 |app (k bytes:Nat) (mv:Bool) (s x:O)
 |mk (k bytes:Nat) (zs:List C) (l:O)
 |bsl (k:Nat) (xs:List O)
 |bld (zs:List C) (parts:List (Nat×Nat×O))
 |sl (k:Nat) (x:O) (lo hi:Option O)
 |ssl (x:O) (lo hi:Option O)
 |cvt (k:IntKind) (x:O)
 |ext (i:Nat) (x:O)
 |nilc (x:O)
 |pick (c x y:O)
 |call (f:Nat) (own:Bool) (xs:List O)
 |mkm (str:Bool)
 |mlk (str:Bool) (x k:O)
 |mup (str:Bool) (x k:O)
 |callm (f:Nat) (own:Bool) (x:O) (xs:List O)
 |bslr (k:Nat) (xs:List O)
 |cut (k:Nat) (x h:O)
 |clo (live:Bool) (g:Nat) (xs:List O)
 |ifc (t:Nat) (x:O)
 |callv (own:Bool) (x:O) (xs:List O)
 |sst (f:Nat) (x y:O)
 |b2s (x:O)
 |mnx (mx:Bool) (x y:O)
structure Ins where
 d:Option Nat
 g:Option (Nat×Bool)
 i:I
def bi (P:Program) (op:Op):I→Bool
 |.mv x=>match op with
  |.move y=>aI y x
  |.assign y=>aI y x
  |_=>false
 |.alloc cs=>match op with
  |.alloc t=>match i6 P t with
   |some zs=>il zs cs
   |none=>false
  |_=>false
 |.box x=>match op with
  |.box _ y=>aI y x
  |_=>false
 |.ld agg k p=>match op with
  |.load t q=>aI q p&&df P t==some agg&&(if agg then szT P t==some k else k==1)
  |_=>false
 |.st k p x=>match op with
  |.store t q y=>aI q p&&aI y x&&szT P t==some k
  |_=>false
 |.fa off p=>match op with
  |.fieldAddr s q f=>aI q p&&oY P s f==some off
  |_=>false
 |.fld agg off k x=>match op with
  |.field s y f=>aI y x&&(match fieldAt P s f with
   |some (o,ft)=>o==off&&df P ft==some agg&&(if agg then szT P ft==some k else k==1)
   |none=>false)
  |_=>false
 |.ia k x i=>match op with
  |.indexAddr t y j=>aI y x&&aI j i&&(match ec P t with
   |some e=>szT P e==some k
   |none=>false)
  |_=>false
 |.idx x i=>match op with
  |.index t y j=>aI y x&&aI j i&&(match P.underlying t with
   |some .string=>true
   |_=>false)
  |_=>false
 |.bin bop kd x y=>match op with
  |.binOp bop' t x' y' _=>bop'==bop&&aI x' x&&aI y' y&&(match kd with
   |.b=>(match P.underlying t with
    |some .bool=>true
    |_=>false)
   |_=>true)
  |_=>false
 |.eqs neg ks x y=>match op with
  |.binOp bop t x' y' _=>(if neg then bop== .neq else bop== .eql)&&aI x' x&&aI y' y&&Ag P t==some ks
  |_=>false
 |.not x=>match op with
  |.unOp .not _ y=>aI y x
  |_=>false
 |.neg x=>match op with
  |.unOp .neg _ y=>aI y x
  |_=>false
 |.len str x=>match op with
  |.call {callee:=.builtin .len,args,argTypes}=>(match args.toList,argTypes.toList with
   |[y],[t]=>aI y x&&yT P t==some str
   |_,_=>false)
  |_=>false
 |.app k bytes _ s x=>match op with
  |.call {callee:=.builtin .append,args,argTypes}=>(match args.toList,argTypes.toList with
   |[s',x'],[t,t']=>t==t'&&aI s' s&&aI x' x&&(match ec P t with
    |some e=>elT P e==some (k,bytes)
    |none=>false)
   |_,_=>false)
  |_=>false
 |.mk k bytes zs l=>match op with
  |.makeSlice t (.tmp n) (.tmp m)=>n==m&&aI (.tmp n) l&&(match ec P t with
   |some e=>elT P e==some (k,bytes)&&(match i6 P e with
    |some zv=>il zv zs
    |none=>false)
   |none=>false)
  |_=>false
 |.bsl k xs=>match op with
  |.buildSlice t n parts=>em parts.toList 0 xs&&n==xs.length&&decide (n*k≤16777216∧n≤16777216)&&(match ec P t with
   |some e=>(match elT P e with
    |some (k',_)=>k'==k
    |none=>false)
   |none=>false)
  |_=>false
 |.bld zs parts=>match op with
  |.build t ps=>(match qw P t,i6 P t with
   |some places,some zv=>il zv zs&&j9 places ps.toList parts
   |_,_=>false)
  |_=>false
 |.sl k x lo hi=>match op with
  |.slice t y lo' hi' none=>aI y x&&eA lo' lo&&eA hi' hi&&(match ec P t with
   |some e=>szT P e==some k
   |none=>false)
  |_=>false
 |.ssl x lo hi=>match op with
  |.slice t y lo' hi' none=>aI y x&&eA lo' lo&&eA hi' hi&&(match P.underlying t with
   |some .string=>true
   |_=>false)
  |_=>false
 |.cvt k x=>match op with
  |.convert s d y=>aI y x&&AS P s d==some k
  |_=>false
 |.ext i x=>match op with
  |.extract y j=>aI y x&&j==i
  |_=>false
 |.nilc x=>match op with
  |.nilCheck y=>aI y x
  |_=>false
 |.pick c x y=>match op with
  |.pick c' x' y'=>aI c' c&&aI x' x&&aI y' y
  |_=>false
 |.call f _ xs=>match op with
  |.call {callee:=.value (.func f'),args,..}=>f'==f&&fZ P f&&cG args.toList xs
  |_=>false
 |.mkm str=>match op with
  |.makeMap t none=>tq P t==some str
  |_=>false
 |.mlk str x k=>match op with
  |.lookup t x' k' false=>aI x' x&&aI k' k&&tq P t==some str
  |_=>false
 |.mup str x k=>match op with
  |.mapUpdate t x' k' (.const (.bool true))=>aI x' x&&aI k' k&&tq P t==some str
  |_=>false
 |.callm f _ x xs=>match op with
  |.call {callee:=.value (.func f'),args,..}=>f'==f&&fZ P f&&cG args.toList (x::xs)
  |_=>false
 |.bslr k xs=>match op with
  |.buildSlice t n parts=>em parts.toList 0 xs&&n==xs.length&&decide (n*k≤16777216∧n≤16777216)&&(match ec P t with
   |some e=>(match elT P e with
    |some (k',_)=>k'==k
    |none=>false)
   |none=>false)
  |_=>false
 |.cut k x h=>match op with
  |.slice t y none (some z) none=>aI y x&&aI z h&&(match ec P t with
   |some e=>szT P e==some k
   |none=>false)
  |_=>false
 |.clo _ g xs=>match op with
  |.makeFunc (.func g') fs cs=>g'==g&&fs.toList.isEmpty&&cG cs.toList xs
  |_=>false
 |.ifc t x=>match op with
  |.makeInterface t' y=>t'==t&&aI y x&&Au P t
  |_=>false
 |.callv _ x xs=>match op with
  |.call {callee:=.value y,args,..}=>aI y x&&cG args.toList xs
  |_=>false
 |.sst f x y=>match op with
  |.call {callee:=.value (.func f'),args,..}=>f'==f&&fZ P f&&cG args.toList [x,y]
  |_=>false
 |.b2s x=>match op with
  |.convert s d y=>aI y x&&Aj P s d
  |_=>false
 |.mnx mx x y=>match op with
  |.call {callee:=.builtin b,args,argTypes}=>(match args.toList,argTypes.toList with
   |[x',y'],[_,_]=>b==(if mx=true then .max else .min)&&aI x' x&&aI y' y
   |_,_=>false)
  |_=>false
def qX (P:Program) (N:Nat) (ops:List Oper) (o:Oper) (s:Ins):Bool:=
 o.dst==s.d&&(match s.d with
  |some d=>decide (d<N)
  |none=>true)&&
 (match o.guard,s.g with
  |none,none=>true
  |some (j,b),some (t,b')=>b==b'&&(ops[j]?).bind (·.dst)==some t&&decide (t<N)
  |_,_=>false)&&bi P o.op s.i
def bY (P:Program) (N:Nat) (ops:List Oper):List Oper→List Ins→Bool
 |[],[]=>true
 |o::os,s::ss=>qX P N ops o s&&bY P N ops os ss
 |_,_=>false
def St.putO (st:St):Option Nat→V→St
 |some d,v=>st.put d v
 |none,_=>st
def ex (nid:Nat) (st:St):I→Option (V×St)
 |.mv x=>some (st.ev x,st)
 |.alloc cs=>some (.c (.p nid cs.length 0 0),st.set nid (mK cs))
 |.box x=>match cD (st.ev x) with
  |some cs=>if Cs.solid cs=true then some (.c (.p nid cs.length 0 0),st.set nid (mK cs)) else none
  |none=>none
 |.ld agg k p=>(jP agg k (st.ev p) st).map fun v=>(v,st)
 |.st k p x=>(jY k (st.ev p) (st.ev x) st).map fun s=>(.c .un,s)
 |.fa off p=>(zo off (st.ev p)).map fun v=>(v,st)
 |.fld agg off k x=>(uc agg off k (st.ev x)).map fun v=>(v,st)
 |.ia k x i=>(th k (st.ev x) (st.ev i)).map fun v=>(v,st)
 |.idx x i=>(r8 (st.ev x) (st.ev i)).map fun v=>(v,st)
 |.bin op kd x y=>(jI op kd (st.ev x) (st.ev y)).map fun v=>(v,st)
 |.eqs neg ks x y=>(sJ neg ks (st.ev x) (st.ev y)).map fun v=>(v,st)
 |.not x=>(t6 (st.ev x)).map fun v=>(v,st)
 |.neg x=>(sI (st.ev x)).map fun v=>(v,st)
 |.len str x=>(sA str (st.ev x)).map fun v=>(v,st)
 |.app k bytes mv s x=>iQ nid k bytes mv (st.ev s) (st.ev x) st
 |.mk k bytes zs l=>vo nid k bytes zs (st.ev l) st
 |.bsl k xs=>lY nid k xs st
 |.bld zs parts=>(jE st zs parts).map fun r=>(.g r,st)
 |.sl k x lo hi=>(tP k (cC st 0 lo) (hi.bind fun z=>g7 (st.ev z)) hi.isNone (st.ev x)).map fun v=>(v,st)
 |.ssl x lo hi=>(rt (cC st 0 lo) (hi.bind fun z=>g7 (st.ev z)) hi.isNone (st.ev x)).map fun v=>(v,st)
 |.cvt k x=>(rQ k (st.ev x)).map fun v=>(v,st)
 |.ext i x=>(uw i (st.ev x)).map fun v=>(v,st)
 |.nilc x=>(qJ (st.ev x)).map fun v=>(v,st)
 |.pick c x y=>(qu (st.ev c) (st.ev x) (st.ev y)).map fun v=>(v,st)
 |.call _ _ _=>none
 |.mkm str=>some (nJ nid str st)
 |.mlk str x k=>(my str (st.ev x) (st.ev k) st).map fun v=>(v,st)
 |.mup str x k=>(jK str (st.ev x) (st.ev k) st).map fun s=>(.c .un,s)
 |.callm _ _ _ _=>none
 |.bslr k xs=>oa nid k xs st
 |.cut k x h=>qc nid k (g7 (st.ev h)) st (st.ev x)
 |.clo true g xs=>(nR g (xs.map st.ev)).map fun v=>(v,st)
 |.clo false g xs=>px g (xs.map st.ev) st
 |.ifc t x=>(uj t (st.ev x)).map fun v=>(v,st)
 |.callv _ _ _=>none
 |.sst _ _ _=>none
 |.b2s x=>(n4 st (st.ev x)).map fun v=>(v,st)
 |.mnx mx x y=>(sf mx (st.ev x) (st.ev y)).map fun v=>(v,st)
section
variable {φ:Nat→Value} {S:Nat→Prop} {fp:Nat→List Nat} {M:MS} {w0:World} {U:Nat→Prop} {N:Nat} {st st':St} {a:Act} {w w':World} {P:Program}
theorem yf {o:Oper} {i:I} {nid:Nat} {v:V} (hf:bi P o.op i=true) (h:SimX φ S fp M w0 U N st a w) (hn:¬U nid) (he:ex nid st i=some (v,st')):Out P o M w0 U N nid st' v a w:=by
 have one:∀{f:Option V},(f.map fun v=>(v,st))=some (v,st')→st'=st∧f=some v:=by
  intro f hm
  simp only[Option.map_eq_some_iff] at hm
  obtain⟨v',h1,h2⟩:=hm
  cases h2
  exact⟨rfl,h1⟩
 cases i with
 |mv x=>
  simp only[ex,Option.some.injEq,Prod.mk.injEq] at he
  obtain⟨rfl,rfl⟩:=he
  simp only[bi] at hf
  split at hf
  ·rename_i y heq;exact sg (.inl heq) hf h
  ·rename_i y heq;exact sg (.inr heq) hf h
  ·cases hf
 |alloc cs=>
  simp only[ex,Option.some.injEq,Prod.mk.injEq] at he
  obtain⟨rfl,rfl⟩:=he
  simp only[bi] at hf
  split at hf
  ·rename_i t heq
   split at hf
   ·rename_i zs hz;exact sk heq hz hf h hn
   ·cases hf
  ·cases hf
 |box x=>
  simp only[ex] at he
  split at he
  ·rename_i cs hcs
   split at he
   ·rename_i hsol
    simp only[Option.some.injEq,Prod.mk.injEq] at he
    obtain⟨rfl,rfl⟩:=he
    simp only[bi] at hf
    split at hf
    ·rename_i t y heq;exact vV heq hf hcs hsol h hn
    ·cases hf
   ·cases he
  ·cases he
 |ld agg k p=>
  obtain⟨rfl,he⟩:=one he
  simp only[bi] at hf
  split at hf
  ·rename_i t q heq
   simp only[Bool.and_eq_true,beq_iff_eq] at hf
   obtain⟨⟨h1,h2⟩,h3⟩:=hf
   exact xH heq h1 h2 (fun ha=>by subst ha;simpa using h3) (fun ha=>by subst ha;simpa using h3) h he
  ·cases hf
 |st k p x=>
  simp only[ex,Option.map_eq_some_iff] at he
  obtain⟨s,h1,h2⟩:=he
  cases h2
  simp only[bi] at hf
  split at hf
  ·rename_i t q y heq
   simp only[Bool.and_eq_true,beq_iff_eq] at hf
   exact wC heq hf.1.1 hf.1.2 hf.2 h h1
  ·cases hf
 |fa off p=>
  obtain⟨rfl,he⟩:=one he
  simp only[bi] at hf
  split at hf
  ·rename_i s q f heq
   simp only[Bool.and_eq_true,beq_iff_eq] at hf
   exact yL heq hf.1 hf.2 h he
  ·cases hf
 |fld agg off k x=>
  obtain⟨rfl,he⟩:=one he
  simp only[bi] at hf
  split at hf
  ·rename_i s y f heq
   simp only[Bool.and_eq_true] at hf
   obtain⟨h1,hf⟩:=hf
   split at hf
   ·rename_i o' ft hfa
    simp only[Bool.and_eq_true,beq_iff_eq] at hf
    obtain⟨⟨rfl,h2⟩,h3⟩:=hf
    exact uW heq h1 hfa h2 (fun ha=>by subst ha;simpa using h3) (fun ha=>by subst ha;simpa using h3) h he
   ·cases hf
  ·cases hf
 |ia k x i=>
  obtain⟨rfl,he⟩:=one he
  simp only[bi] at hf
  split at hf
  ·rename_i t y j heq
   simp only[Bool.and_eq_true] at hf
   obtain⟨⟨h1,h2⟩,hf⟩:=hf
   split at hf
   ·rename_i e het;exact xu heq h1 h2 het (by simpa using hf) h he
   ·cases hf
  ·cases hf
 |idx x i=>
  obtain⟨rfl,he⟩:=one he
  simp only[bi] at hf
  split at hf
  ·rename_i t y j heq
   simp only[Bool.and_eq_true] at hf
   obtain⟨⟨h1,h2⟩,hf⟩:=hf
   split at hf
   ·rename_i hu;exact vK heq h1 h2 hu h he
   ·cases hf
  ·cases hf
 |bin bop kd x y=>
  obtain⟨rfl,he⟩:=one he
  simp only[bi] at hf
  split at hf
  ·rename_i bop' t x' y' yt heq
   simp only[Bool.and_eq_true,beq_iff_eq] at hf
   obtain⟨⟨⟨rfl,h1⟩,h2⟩,h3⟩:=hf
   refine wh heq h1 h2 (fun hk=>?_) h he
   subst hk
   simp only at h3
   split at h3
   ·rename_i hu;exact hu
   ·cases h3
  ·cases hf
 |eqs neg ks x y=>
  obtain⟨rfl,he⟩:=one he
  simp only[bi] at hf
  split at hf
  ·rename_i bop t x' y' yt heq
   simp only[Bool.and_eq_true,beq_iff_eq] at hf
   obtain⟨⟨⟨h0,h1⟩,h2⟩,h3⟩:=hf
   refine uT heq ?_ h1 h2 h3 h he
   cases neg
   ·exact .inl ⟨by simpa using h0,rfl⟩
   ·exact .inr ⟨by simpa using h0,rfl⟩
  ·cases hf
 |not x=>
  obtain⟨rfl,he⟩:=one he
  simp only[bi] at hf
  split at hf
  ·rename_i t y heq;exact wc heq hf h he
  ·cases hf
 |neg x=>
  obtain⟨rfl,he⟩:=one he
  simp only[bi] at hf
  split at hf
  ·rename_i t y heq;exact u0 heq hf h he
  ·cases hf
 |len str x=>
  obtain⟨rfl,he⟩:=one he
  simp only[bi] at hf
  split at hf
  ·rename_i args ats heq
   split at hf
   ·rename_i y t ha hat
    simp only[Bool.and_eq_true,beq_iff_eq] at hf
    have e1:args=#[y]:=Array.ext' ha
    have e2:ats=#[t]:=Array.ext' hat
    subst e1;subst e2
    exact v9 heq hf.1 hf.2 h he
   ·cases hf
  ·cases hf
 |app k bytes mv s x=>
  simp only[bi] at hf
  split at hf
  ·rename_i args ats heq
   split at hf
   ·rename_i s' x' t t' ha hat
    simp only[Bool.and_eq_true,beq_iff_eq] at hf
    obtain⟨⟨⟨rfl,h1⟩,h2⟩,h3⟩:=hf
    have e1:args=#[s',x']:=Array.ext' ha
    have e2:ats=#[t,t]:=Array.ext' hat
    subst e1;subst e2
    split at h3
    ·rename_i e het;exact vW heq h1 h2 het (by simpa using h3) h hn he
    ·cases h3
   ·cases hf
  ·cases hf
 |mk k bytes zs l=>
  simp only[bi] at hf
  split at hf
  ·rename_i t n m heq
   simp only[Bool.and_eq_true,beq_iff_eq] at hf
   obtain⟨⟨rfl,h1⟩,h2⟩:=hf
   split at h2
   ·rename_i e het
    simp only[Bool.and_eq_true,beq_iff_eq] at h2
    obtain⟨h3,h4⟩:=h2
    split at h4
    ·rename_i zv hz;exact yH heq h1 het h3 hz h4 h hn he
    ·cases h4
   ·cases h2
  ·cases hf
 |bsl k xs=>
  simp only[bi] at hf
  split at hf
  ·rename_i t n parts heq
   simp only[Bool.and_eq_true,beq_iff_eq,decide_eq_true_eq] at hf
   obtain⟨⟨⟨h1,h2⟩,h3⟩,h4⟩:=hf
   split at h4
   ·rename_i e het
    split at h4
    ·rename_i k' b' hel
     obtain rfl:k'=k:=by simpa using h4
     exact pV heq h1 h2 h3 het hel h hn he
    ·cases h4
   ·cases h4
  ·cases hf
 |bslr k xs=>
  simp only[bi] at hf
  split at hf
  ·rename_i t n parts heq
   simp only[Bool.and_eq_true,beq_iff_eq,decide_eq_true_eq] at hf
   obtain⟨⟨⟨h1,h2⟩,h3⟩,h4⟩:=hf
   split at h4
   ·rename_i e het
    split at h4
    ·rename_i k' b' hel
     obtain rfl:k'=k:=by simpa using h4
     exact tn heq h1 h2 h3 het hel h hn he
    ·cases h4
   ·cases h4
  ·cases hf
 |cut k x oh=>
  simp only[ex] at he
  simp only[bi] at hf
  split at hf
  ·rename_i t y z heq
   simp only[Bool.and_eq_true] at hf
   obtain⟨⟨h1,h2⟩,hf⟩:=hf
   split at hf
   ·rename_i e het;exact wk heq h1 h2 het (by simpa using hf) h hn he
   ·cases hf
  ·cases hf
 |clo live g xs=>
  simp only[bi] at hf
  split at hf
  ·rename_i g' fs cs heq
   simp only[Bool.and_eq_true,beq_iff_eq,List.isEmpty_iff] at hf
   obtain⟨⟨rfl,h1⟩,h2⟩:=hf
   cases live with
   |true=>
    obtain⟨rfl,he⟩:=one he
    exact tC heq h1 h2 h he
   |false=>
    simp only[ex] at he
    exact vT heq h1 h2 h he
  ·cases hf
 |ifc t x=>
  obtain⟨rfl,he⟩:=one he
  simp only[bi] at hf
  split at hf
  ·rename_i t' y heq
   simp only[Bool.and_eq_true,beq_iff_eq] at hf
   obtain⟨⟨rfl,h1⟩,h2⟩:=hf
   exact vz heq h1 h2 h he
  ·cases hf
 |callv own x xs=>cases he
 |sst f x y=>cases he
 |b2s x=>
  obtain⟨rfl,he⟩:=one he
  simp only[bi] at hf
  split at hf
  ·rename_i s d y heq
   simp only[Bool.and_eq_true] at hf
   exact vQ heq hf.1 hf.2 h he
  ·cases hf
 |mnx mx x y=>
  obtain⟨rfl,he⟩:=one he
  simp only[bi] at hf
  split at hf
  ·rename_i b args ats heq
   split at hf
   ·rename_i x' y' t1 t2 ha hat
    simp only[Bool.and_eq_true,beq_iff_eq] at hf
    obtain⟨⟨rfl,h1⟩,h2⟩:=hf
    have e1:args=#[x',y']:=Array.ext' ha
    have e2:ats=#[t1,t2]:=Array.ext' hat
    subst e1;subst e2
    exact uS heq h1 h2 h he
   ·cases hf
  ·cases hf
 |bld zs parts=>
  simp only[ex,Option.map_eq_some_iff] at he
  obtain⟨r,h1,h2⟩:=he
  cases h2
  simp only[bi] at hf
  split at hf
  ·rename_i t ps heq
   split at hf
   ·rename_i places zv hp hz
    simp only[Bool.and_eq_true] at hf
    exact vc heq hp hz hf.1 hf.2 h h1
   ·cases hf
  ·cases hf
 |sl k x lo hi=>
  obtain⟨rfl,he⟩:=one he
  simp only[bi] at hf
  split at hf
  ·rename_i t y lo' hi' heq
   simp only[Bool.and_eq_true] at hf
   obtain⟨⟨⟨h1,h2⟩,h3⟩,hf⟩:=hf
   split at hf
   ·rename_i e het;exact xy heq h1 h2 h3 het (by simpa using hf) h he
   ·cases hf
  ·cases hf
 |ssl x lo hi=>
  obtain⟨rfl,he⟩:=one he
  simp only[bi] at hf
  split at hf
  ·rename_i t y lo' hi' heq
   simp only[Bool.and_eq_true] at hf
   obtain⟨⟨⟨h1,h2⟩,h3⟩,hf⟩:=hf
   split at hf
   ·rename_i hu;exact uV heq h1 h2 h3 hu h he
   ·cases hf
  ·cases hf
 |cvt k x=>
  obtain⟨rfl,he⟩:=one he
  simp only[bi] at hf
  split at hf
  ·rename_i s d y heq
   simp only[Bool.and_eq_true,beq_iff_eq] at hf
   exact vZ heq hf.1 hf.2 h he
  ·cases hf
 |ext i x=>
  obtain⟨rfl,he⟩:=one he
  simp only[bi] at hf
  split at hf
  ·rename_i y j heq
   simp only[Bool.and_eq_true,beq_iff_eq] at hf
   obtain⟨h1,rfl⟩:=hf
   exact wl heq h1 h he
  ·cases hf
 |nilc x=>
  obtain⟨rfl,he⟩:=one he
  simp only[bi] at hf
  split at hf
  ·rename_i y heq;exact tO heq hf h he
  ·cases hf
 |pick c x y=>
  obtain⟨rfl,he⟩:=one he
  simp only[bi] at hf
  split at hf
  ·rename_i c' x' y' heq
   simp only[Bool.and_eq_true] at hf
   exact tJ heq hf.1.1 hf.1.2 hf.2 h he
  ·cases hf
 |call f own xs=>simp[ex] at he
 |callm f own x xs=>simp[ex] at he
 |mkm str=>
  simp only[ex,Option.some.injEq] at he
  simp only[bi] at hf
  split at hf
  ·rename_i t heq
   have:=vG (P:=P) (str:=str) heq h hn
   rw[he] at this
   exact this
  ·cases hf
 |mlk str x k=>
  obtain⟨rfl,he⟩:=one he
  simp only[bi] at hf
  split at hf
  ·rename_i t x' k' heq
   simp only[Bool.and_eq_true,beq_iff_eq] at hf
   exact vR heq hf.1.1 hf.1.2 hf.2 h he
  ·cases hf
 |mup str x k=>
  simp only[ex,Option.map_eq_some_iff] at he
  obtain⟨s,h1,h2⟩:=he
  cases h2
  simp only[bi] at hf
  split at hf
  ·rename_i t x' k' heq
   simp only[Bool.and_eq_true,beq_iff_eq] at hf
   exact vN heq hf.1.1 hf.1.2 rfl hf.2 h h1
  ·cases hf
end
end Go.Vs
namespace Go.Vs
open Go.RowKit
def C.ids:C→List Nat
 |.m id=>[id]
 |.f id _ _ _=>[id]
 |.p id _ _ _=>[id]
 |_=>[]
def Cs.ids:List C→List Nat
 |[]=>[]
 |c::cs=>c.ids++Cs.ids cs
def V.ids:V→List Nat
 |.c x=>x.ids
 |.g cs=>Cs.ids cs
 |.ifc _ x=>x.ids
 |.clo _ cs=>Cs.ids cs
 |_=>[]
def St.app (st:St) (m:List (Nat×Option Ent)):St:={st with tab:=m++st.tab}
def AgE (st st2:St) (l:List Nat):Prop:=∀id∈l,st2.ent id=st.ent id
theorem lu {α:Type} {d:α}:∀(m r r2:List (Nat×α)) (id:Nat),aB d r2 id=aB d r id→aB d (m++r2) id=aB d (m++r) id
 |[],_,_,_,h=>h
 |(i,x)::m,r,r2,id,h=>by
  simp only[List.cons_append,aB]
  split
  ·rfl
  ·exact lu m r r2 id h
theorem AgE.app {st st2:St} {l:List Nat} (h:AgE st st2 l) (m:List (Nat×Option Ent)):AgE (st.app m) (st2.app m) l:=
 fun id hid=>lu m _ _ id (h id hid)
theorem AgE.sub {st st2:St} {l l':List Nat} (h:AgE st st2 l) (hs:∀x∈l',x∈l):AgE st st2 l':=fun id hid=>h id (hs id hid)
theorem cT (st:St) (m m':List (Nat×Option Ent)):(st.app m).app m'=st.app (m'++m):=by simp[St.app]
theorem hG (st:St):st.app []=st:=rfl
theorem uM (st:St) (id:Nat) (e:Ent):st.set id e=st.app [(id,some e)]:=rfl
theorem fj (st:St) (id:Nat):st.kill id=st.app [(id,none)]:=rfl
theorem ef:∀(cs:List C) {st st' st2:St} {ds:List D},ap st cs=some (ds,st')→AgE st st2 (Cs.ids cs)→∃m,st'=st.app m∧ap st2 cs=some (ds,st2.app m)
 |[],st,st',st2,ds,h,_=>by
  simp[ap] at h
  obtain⟨rfl,rfl⟩:=h
  exact⟨[],rfl,by simp[ap,hG]⟩
 |c::cs,st,st',st2,ds,h,hg=>by
  have hg2:AgE st st2 (Cs.ids cs):=hg.sub (by simp[Cs.ids];intro x hx;exact .inr hx)
  cases c with
  |r x=>
   simp only[ap,Option.map_eq_some_iff] at h
   obtain⟨⟨d',s'⟩,h1,h2⟩:=h
   cases h2
   obtain⟨m,rfl,e⟩:=ef cs h1 hg2
   exact⟨m,rfl,by simp[ap,e]⟩
  |n k=>
   simp only[ap,Option.map_eq_some_iff] at h
   obtain⟨⟨d',s'⟩,h1,h2⟩:=h
   cases h2
   obtain⟨m,rfl,e⟩:=ef cs h1 hg2
   exact⟨m,rfl,by simp[ap,e]⟩
  |f id k lo n=>
   have he:=hg id (by simp[Cs.ids,C.ids])
   simp only[ap] at h
   split at h
   ·rename_i k' es hent
    split at h
    ·rename_i hc
     simp only[Option.map_eq_some_iff] at h
     obtain⟨⟨d',s'⟩,h1,h2⟩:=h
     cases h2
     rw[fj] at h1
     obtain⟨m,rfl,e⟩:=ef cs (st2:=st2.kill id) h1 (hg2.app _)
     refine⟨m++[(id,none)],by rw[cT],?_⟩
     simp only[ap,he,hent,hc,if_true,and_self]
     rw[e,fj,cT]
     rfl
    ·cases h
   ·cases h
  |p id k i off=>simp[ap] at h
  |un=>simp[ap] at h
  |m id=>simp[ap] at h
theorem oH {v:V} {cs:List C} (h:cD v=some cs):∀x∈Cs.ids cs,x∈v.ids:=by
 cases v with
 |c x=>simp[cD] at h;subst h;simp[Cs.ids,V.ids]
 |g cs'=>simp[cD] at h;subst h;simp[V.ids]
 |u vs=>simp[cD] at h
 |q cs'=>simp[cD] at h
 |ifc t x=>simp[cD] at h
 |clo g cs'=>simp[cD] at h
theorem j7 {k:Nat}:∀(vs:List V) {st st' st2:St} {es:List (List D)},cV k st vs=some (es,st')→AgE st st2 (vs.flatMap V.ids)→∃m,st'=st.app m∧cV k st2 vs=some (es,st2.app m)
 |[],st,st',st2,es,h,_=>by
  simp[cV] at h
  obtain⟨rfl,rfl⟩:=h
  exact⟨[],rfl,by simp[cV,hG]⟩
 |v::vs,st,st',st2,es,h,hg=>by
  simp only[cV] at h
  split at h
  ·rename_i cs hcs
   split at h
   ·rename_i hc
    split at h
    ·rename_i ds st1 hab
     simp only[Option.map_eq_some_iff] at h
     obtain⟨⟨d',s'⟩,h1,h2⟩:=h
     cases h2
     obtain⟨m1,rfl,e1⟩:=ef cs hab (hg.sub (l':=Cs.ids cs) (fun x hx=>by simp[oH hcs x hx]))
     have hg2:AgE st st2 (vs.flatMap V.ids):=hg.sub (fun x hx=>by
      rw[List.flatMap_cons];exact List.mem_append_right _ hx)
     obtain⟨m2,rfl,e2⟩:=j7 vs h1 (hg2.app m1)
     refine⟨m2++m1,by rw[cT],?_⟩
     simp[cV,hcs,hc,e1,e2,cT]
    ·cases h
   ·cases h
  ·cases h
theorem yM {k:Nat} {mv:Bool} {st st' st2:St} {v:V} {es:List (List D)} (h:gm k mv st v=some (es,st')) (hg:AgE st st2 v.ids):∃m,st'=st.app m∧gm k mv st2 v=some (es,st2.app m):=by
 unfold gm at h
 split at h
 ·cases h;exact⟨[],rfl,by simp[gm,hG]⟩
 ·split at h
  ·rename_i hk;cases h;exact⟨[],rfl,by simp[gm,hk,hG]⟩
  ·cases h
 ·rename_i id k' lo n
  have he:=hg id (by simp[V.ids,C.ids])
  split at h
  ·rename_i k0 es0 hent
   split at h
   ·rename_i hc
    split at h
    ·rename_i hmv
     split at h
     ·rename_i hc2;cases h;exact⟨[(id,none)],rfl,by simp only[gm,he,hent,if_pos hc,if_pos hmv,if_pos hc2];rfl⟩
     ·cases h
    ·rename_i hmv
     split at h
     ·rename_i hc2;cases h;exact⟨[],rfl,by simp only[gm,he,hent,if_pos hc,if_neg hmv,if_pos hc2,hG]⟩
     ·cases h
   ·cases h
  ·cases h
 ·cases h
theorem xd {nid k bytes:Nat} {mv:Bool} {sv xv v:V} {st st' st2:St} (h:iQ nid k bytes mv sv xv st=some (v,st')) (hg:AgE st st2 (sv.ids++xv.ids)):∃m,st'=st.app m∧iQ nid k bytes mv sv xv st2=some (v,st2.app m):=by
 unfold iQ at h
 split at h
 ·cases h
 ·rename_i news st1 hsrc
  obtain⟨m1,rfl,e1⟩:=yM hsrc (hg.sub (fun x hx=>List.mem_append_right _ hx))
  split at h
  ·split at h
   ·rename_i hc;cases h
    exact⟨_::m1,rfl,by simp only[iQ,e1,if_pos hc];rfl⟩
   ·cases h
  ·rename_i id k' lo n
   have he:=(hg.app m1) id (by simp[V.ids,C.ids])
   split at h
   ·rename_i k0 es hent
    split at h
    ·rename_i hc;cases h
     exact⟨_::_::m1,rfl,by simp only[iQ,e1,he,hent,if_pos hc];rfl⟩
    ·cases h
   ·cases h
  ·cases h
theorem zi {k:Nat} {pv xv:V} {st st' st2:St} (h:jY k pv xv st=some st') (hg:AgE st st2 (pv.ids++xv.ids)):∃m,st'=st.app m∧jY k pv xv st2=some (st2.app m):=by
 unfold jY at h
 split at h
 ·rename_i id kk i off xs hxs
  have he:=hg id (by simp[V.ids,C.ids])
  split at h
  ·rename_i hc
   split at h
   ·rename_i k0 pr cs po hent
    split at h
    ·rename_i hc2;cases h
     exact⟨[_],rfl,by simp only[jY,hxs,if_pos hc,he,hent,if_pos hc2];rfl⟩
    ·cases h
   ·rename_i k0 es i0 cs hent
    split at h
    ·rename_i hc2;cases h
     exact⟨[_],rfl,by simp only[jY,hxs,if_pos hc,he,hent,if_pos hc2];rfl⟩
    ·cases h
   ·rename_i k0 es hent
    split at h
    ·rename_i ds st1 hab
     obtain⟨m,rfl,e⟩:=ef xs hab (hg.sub (l':=Cs.ids xs) (fun x hx=>List.mem_append_right _ (oH hxs x hx)))
     have he2:=(hg.app m) id (by simp[V.ids,C.ids])
     split at h
     ·rename_i e0 el hent2 hel
      split at h
      ·rename_i hc2;cases h
       exact⟨_::m,rfl,by simp only[jY,hxs,if_pos hc,he,hent,e,he2,hent2,hel,if_pos hc2];rfl⟩
      ·cases h
     ·cases h
    ·cases h
   ·cases h
  ·cases h
 ·cases h
theorem zd {agg:Bool} {k:Nat} {pv:V} {st st2:St} (hg:AgE st st2 pv.ids):jP agg k pv st2=jP agg k pv st:=by
 unfold jP
 split
 ·rename_i id kk i off
  rw[hg id (by simp[V.ids,C.ids])]
 ·rfl
 ·rfl
theorem qG {c:C} {st st2:St} (hg:AgE st st2 c.ids):im st2 c=im st c:=by
 unfold im
 split
 ·rfl
 ·rfl
 ·rename_i id k lo n
  rw[hg id (by simp[C.ids])]
 ·rfl
theorem rX {st st2:St}:∀{cs:List C},AgE st st2 (Cs.ids cs)→gn st2 cs=gn st cs
 |[],_=>rfl
 |c::cs,hg=>by
  simp only[gn]
  rw[qG (hg.sub (l':=c.ids) (fun x hx=>by simp[Cs.ids,hx])),rX (hg.sub (l':=Cs.ids cs) (fun x hx=>by simp[Cs.ids,hx]))]
theorem A3 {v:V} {st st2:St} (hg:AgE st st2 v.ids):toA st2 v=toA st v:=by
 cases v with
 |c x=>simp only[toA];rw[qG hg]
 |g cs=>simp only[toA];rw[rX hg]
 |u vs=>rfl
 |q cs=>rfl
 |ifc t x=>rfl
 |clo g cs=>rfl
theorem na {st st2:St}:∀{xs:List O},(∀x∈xs,st2.ev x=st.ev x)→AgE st st2 (xs.flatMap fun x=>(st.ev x).ids)→gK st2 xs=gK st xs
 |[],_,_=>rfl
 |x::xs,hs,hg=>by
  simp only[gK]
  rw[hs x (by simp),A3 (hg.sub (fun y hy=>by simp[hy])),na (fun y hy=>hs y (by simp[hy])) (hg.sub (fun y hy=>by
   rw[List.flatMap_cons];exact List.mem_append_right _ hy))]
theorem sa (id:Nat) (d:D):∃c m,∀st,eF id st d=(c,St.app st m):=by
 cases d with
 |r x=>exact⟨_,[],fun st=>rfl⟩
 |o k es=>exact⟨_,[_],fun st=>rfl⟩
theorem gQ:∀(ds:List D) (id:Nat),∃c m,∀st,aL id st ds=(c,St.app st m)
 |[],id=>⟨[],[],fun st=>rfl⟩
 |d::ds,id=>by
  obtain⟨c,m,h⟩:=sa id d
  obtain⟨cs,m2,h2⟩:=gQ ds (id+1)
  exact⟨c::cs,m2++m,fun st=>by simp[aL,h,h2,cT]⟩
theorem Aa (x:X):∀id,∃v m,∀st,x.own id st=(v,St.app st m):=by
 refine X.rec (motive_1:=fun x=>∀id,∃v m,∀st,x.own id st=(v,St.app st m)) (motive_2:=fun xs=>∀id,∃v m,∀st,X.owns id st xs=(v,St.app st m)) ?_ ?_ ?_ ?_ ?_ ?_ x
 ·intro d id
  obtain⟨c,m,h⟩:=sa id d
  exact⟨.c c,m,fun st=>by simp[X.own,h]⟩
 ·intro ds id
  obtain⟨c,m,h⟩:=gQ ds id
  exact⟨.g c,m,fun st=>by simp[X.own,h]⟩
 ·intro xs ih id
  obtain⟨v,m,h⟩:=ih id
  exact⟨.u v,m,fun st=>by simp[X.own,h]⟩
 ·intro ds id
  obtain⟨c,m,h⟩:=gQ ds id
  exact⟨.c (.p (id+ds.length) ds.length 0 0),(id+ds.length,some (.foc ds.length [] c []))::m,fun st=>by simp only[X.own,h];rfl⟩
 ·intro id
  exact⟨[],[],fun st=>rfl⟩
 ·intro x xs ih1 ih2 id
  obtain⟨v,m,h⟩:=ih1 id
  obtain⟨vs,m2,h2⟩:=ih2 (id+x.count)
  exact⟨v::vs,m2++m,fun st=>by simp[X.owns,h,h2,cT]⟩
theorem nM (own:Bool) (nid:Nat) (x:X):∃v m,∀st,bT own nid st x=(v,St.app st m):=by
 cases own with
 |true=>simpa [bT] using Aa x nid
 |false=>exact⟨V.ofX x,[],fun st=>rfl⟩
def I.ops:I→List O
 |.mv x=>[x]
 |.alloc _=>[]
 |.box x=>[x]
 |.ld _ _ p=>[p]
 |.st _ p x=>[p,x]
 |.fa _ p=>[p]
 |.fld _ _ _ x=>[x]
 |.ia _ x i=>[x,i]
 |.idx x i=>[x,i]
 |.bin _ _ x y=>[x,y]
 |.eqs _ _ x y=>[x,y]
 |.not x=>[x]
 |.neg x=>[x]
 |.len _ x=>[x]
 |.app _ _ _ s x=>[s,x]
 |.mk _ _ _ l=>[l]
 |.bsl _ xs=>xs
 |.bld _ ps=>ps.map fun p=>p.2.2
 |.sl _ x lo hi=>x::(lo.toList++hi.toList)
 |.ssl x lo hi=>x::(lo.toList++hi.toList)
 |.cvt _ x=>[x]
 |.ext _ x=>[x]
 |.nilc x=>[x]
 |.pick c x y=>[c,x,y]
 |.call _ _ xs=>xs
 |.mkm _=>[]
 |.mlk _ x k=>[x,k]
 |.mup _ x k=>[x,k]
 |.callm _ _ x xs=>x::xs
 |.bslr _ xs=>xs
 |.cut _ x h=>[x,h]
 |.clo _ _ xs=>xs
 |.ifc _ x=>[x]
 |.callv _ x xs=>x::xs
 |.sst _ x y=>[x,y]
 |.b2s x=>[x]
 |.mnx _ x y=>[x,y]
def I.mem:I→Bool
 |.ld _ _ _=>true
 |.st _ _ _=>true
 |.app _ _ _ _ _=>true
 |.bsl _ _=>true
 |.bslr _ _=>true
 |.cut _ _ _=>true
 |.clo _ _ _=>true
 |.callv _ _ _=>true
 |.sst _ _ _=>true
 |.b2s _=>true
 |.call _ _ _=>true
 |.mlk _ _ _=>true
 |.mup _ _ _=>true
 |_=>false
def V.deep (st:St):V→List Nat
 |.c (.p id _ _ _)=>id::(match st.ent id with
  |some (.foc _ _ cs _)=>Cs.ids cs
  |_=>[])
 |v=>v.ids
def I.ids (st:St):I→List Nat
 |.callm _ _ x xs=>V.deep st (st.ev x)++xs.flatMap fun x=>(st.ev x).ids
 |i=>if i.mem then i.ops.flatMap fun x=>(st.ev x).ids else[]
theorem yk {str:Bool} {xv kv:V} {st st2:St} (hg:AgE st st2 xv.ids):my str xv kv st2=my str xv kv st:=by
 unfold my
 split
 ·rename_i id n;rw[hg id (by simp[V.ids,C.ids])]
 ·rename_i id n;rw[hg id (by simp[V.ids,C.ids])]
 ·rfl
theorem wF {str:Bool} {xv kv:V} {st st' st2:St} (h:jK str xv kv st=some st') (hg:AgE st st2 xv.ids):∃m,st'=st.app m∧jK str xv kv st2=some (st2.app m):=by
 unfold jK at h
 split at h
 ·rename_i id n
  have he:=hg id (by simp[V.ids,C.ids])
  split at h
  ·rename_i l hent;cases h
   exact⟨[_],rfl,by simp only[jK,he,hent];rfl⟩
  ·cases h
 ·rename_i id n
  have he:=hg id (by simp[V.ids,C.ids])
  split at h
  ·rename_i l hent;cases h
   exact⟨[_],rfl,by simp only[jK,he,hent];rfl⟩
  ·cases h
 ·cases h
theorem uF {v:V} {st s st2:St} {a0:AM} (h:gF st v=some (a0,s)) (hg:AgE st st2 (V.deep st v)):∃m,s=st.app m∧gF st2 v=some (a0,st2.app m):=by
 unfold gF at h
 split at h
 ·rename_i id k i off
  have he:=hg id (by simp[V.deep])
  split at h
  ·rename_i cs hbx
   have hent:=hJ hbx
   have hbx2:iI st2 id k=some cs:=by unfold iI at hbx ⊢;rw[he];exact hbx
   split at h
   ·rename_i hc
    split at h
    ·rename_i ds s' hab
     cases h
     have hg2:AgE (st.kill id) (st2.kill id) (Cs.ids cs):=by
      rw[fj,fj]
      refine AgE.app (hg.sub (fun x hx=>?_)) _
      simp only[V.deep,hent]
      exact List.mem_cons_of_mem _ hx
     obtain⟨m,e1,e2⟩:=ef cs hab hg2
     refine⟨m++[(id,none)],by rw[e1,fj,cT],?_⟩
     simp only[gF,hbx2,hc,and_self,if_true,e2]
     rw[fj,cT]
    ·cases h
   ·cases h
  ·cases h
 ·rename_i c hnp
  have hids:V.deep st (.c c)=(V.c c).ids:=by
   cases c<;>first|rfl|exact absurd rfl (hnp _ _ _ _)
  rw[hids] at hg
  split at h
  ·rename_i d s' hab
   cases h
   obtain⟨m,e1,e2⟩:=ef [c] hab (hg.sub (by simp[Cs.ids,V.ids]))
   refine⟨m,e1,?_⟩
   unfold gF
   split
   ·rename_i heq;cases heq;exact absurd rfl (hnp _ _ _ _)
   ·rename_i heq;cases heq;rw[e2]
   ·rename_i heq;cases heq
   ·rename_i h1 h2 h3;exact absurd rfl (h2 _)
  ·cases h
 ·rename_i cs
  split at h
  ·rename_i ds s' hab
   cases h
   obtain⟨m,e1,e2⟩:=ef cs hab (hg.sub (by simp[V.deep,V.ids]))
   exact⟨m,e1,by simp only[gF,e2]⟩
  ·cases h
 ·cases h
theorem ry {st st2:St}:∀{ps:List (Nat×Nat×O)} {zs:List C},(∀x∈ps.map (fun p=>p.2.2),st2.ev x=st.ev x)→jE st2 zs ps=jE st zs ps
 |[],_,_=>rfl
 |(off,size,x)::r,zs,h=>by
  simp only[jE]
  rw[h x (by simp)]
  split
  ·split
   ·exact ry fun y hy=>h y (by simp at hy ⊢;exact .inr hy)
   ·rfl
  ·rfl
theorem yv {st st2:St} {id k:Nat} (he:st2.ent id=st.ent id):iI st2 id k=iI st id k:=by unfold iI;rw[he]
theorem tY:∀(vs:List V) {st st' st2:St} {bs:List (List R)},mL st vs=some (bs,st')→AgE st st2 (vs.flatMap V.ids)→∃m,st'=st.app m∧mL st2 vs=some (bs,st2.app m)
 |[],st,st',st2,bs,h,_=>by
  simp[mL] at h
  obtain⟨rfl,rfl⟩:=h
  exact⟨[],rfl,by simp[mL,hG]⟩
 |v::vs,st,st',st2,bs,h,hg=>by
  unfold mL at h
  split at h
  ·simp_all
  ·rename_i id k i off vs' heq
   simp only[List.cons.injEq] at heq
   obtain⟨rfl,rfl⟩:=heq
   have he:=hg id (by simp[V.ids,C.ids])
   split at h
   ·rename_i cs hbx
    split at h
    ·rename_i hio
     split at h
     ·rename_i rs hrs
      simp only[Option.map_eq_some_iff] at h
      obtain⟨⟨bs',s'⟩,h1,h2⟩:=h
      simp only[Prod.mk.injEq] at h2
      obtain⟨rfl,rfl⟩:=h2
      rw[fj] at h1
      obtain⟨m,rfl,e⟩:=tY vs (st2:=st2.kill id) h1 ((hg.app [(id,none)]).sub (fun x hx=>by simp only[List.flatMap_cons,List.mem_append];exact .inr hx))
      refine⟨m++[(id,none)],by rw[cT],?_⟩
      simp only[mL,yv he,hbx,if_pos hio,hrs,e,Option.map_some]
      rw[fj,cT]
     ·cases h
    ·cases h
   ·cases h
  ·cases h
theorem yz {st st2:St} {v:V} (hg:AgE st st2 v.ids):n4 st2 v=n4 st v:=by
 cases v with
 |c c=>simp only[n4];rw[qG (by simpa [V.ids] using hg)]
 |_=>rfl
theorem xQ {st st2:St} {x y:V} (hg:AgE st st2 (x.ids++y.ids)):mG st2 x y=mG st x y:=by
 unfold mG
 split
 ·rename_i t id k n g bid
  rw[hg id (by simp[V.ids,C.ids]),hg bid (by simp[V.ids,C.ids,Cs.ids])]
 ·rfl
theorem zM {nid:Nat} {st st' st2:St} {i:I} {v:V} (h:ex nid st i=some (v,st')) (hs:∀x∈i.ops,st2.ev x=st.ev x) (hg:AgE st st2 (i.ids st)):∃m,st'=st.app m∧ex nid st2 i=some (v,st2.app m):=by
 have one:∀{f f2:Option V},(f.map fun v=>(v,st))=some (v,st')→f2=f→∃m,st'=st.app m∧(f2.map fun v=>(v,st2))=some (v,st2.app m):=by
  intro f f2 hm he
  subst he
  simp only[Option.map_eq_some_iff] at hm
  obtain⟨v',h1,h2⟩:=hm
  cases h2
  exact⟨[],rfl,by simp[h1,hG]⟩
 cases i with
 |mv x=>simp only[ex] at h ⊢;cases h;exact⟨[],rfl,by rw[hs x (by simp[I.ops])];rfl⟩
 |alloc cs=>cases h;exact⟨[_],rfl,rfl⟩
 |box x=>
  simp only[ex] at h ⊢
  rw[hs x (by simp[I.ops])]
  split at h
  ·split at h
   ·rename_i cs hcs hc;cases h;exact⟨[(nid,some (mK cs))],rfl,by simp only[if_pos hc];rfl⟩
   ·cases h
  ·cases h
 |ld agg k p=>
  refine one h ?_
  rw[hs p (by simp[I.ops])]
  exact zd (hg.sub (by simp[I.ids,I.mem,I.ops]))
 |st k p x=>
  simp only[ex,Option.map_eq_some_iff] at h
  obtain⟨s,h1,h2⟩:=h
  cases h2
  obtain⟨m,rfl,e⟩:=zi h1 (hg.sub (by simp[I.ids,I.mem,I.ops]))
  refine⟨m,rfl,?_⟩
  simp only[ex]
  rw[hs p (by simp[I.ops]),hs x (by simp[I.ops]),e]
  rfl
 |fa off p=>exact one h (by rw[hs p (by simp[I.ops])])
 |fld agg off k x=>exact one h (by rw[hs x (by simp[I.ops])])
 |ia k x j=>exact one h (by rw[hs x (by simp[I.ops]),hs j (by simp[I.ops])])
 |idx x j=>exact one h (by rw[hs x (by simp[I.ops]),hs j (by simp[I.ops])])
 |bin op kd x y=>exact one h (by rw[hs x (by simp[I.ops]),hs y (by simp[I.ops])])
 |eqs neg ks x y=>exact one h (by rw[hs x (by simp[I.ops]),hs y (by simp[I.ops])])
 |not x=>exact one h (by rw[hs x (by simp[I.ops])])
 |neg x=>exact one h (by rw[hs x (by simp[I.ops])])
 |len str x=>exact one h (by rw[hs x (by simp[I.ops])])
 |app k bytes mv s x=>
  simp only[ex] at h ⊢
  rw[hs s (by simp[I.ops]),hs x (by simp[I.ops])]
  exact xd h (hg.sub (by simp[I.ids,I.mem,I.ops]))
 |mk k bytes zs l=>
  simp only[ex] at h ⊢
  rw[hs l (by simp[I.ops])]
  unfold vo at h ⊢
  split at h
  ·split at h
   ·rename_i hc;cases h;exact⟨[_],rfl,by simp only[if_pos hc];rfl⟩
   ·cases h
  ·cases h
 |bsl k xs=>
  simp only[ex,lY,Option.map_eq_some_iff] at h ⊢
  obtain⟨⟨es,s⟩,h1,h2⟩:=h
  cases h2
  have hm:xs.map st2.ev=xs.map st.ev:=List.map_congr_left fun x hx=>hs x (by simpa [I.ops] using hx)
  obtain⟨m,rfl,e⟩:=j7 (xs.map st.ev) h1 (hg.sub (by simp[I.ids,I.mem,I.ops,List.flatMap_map]))
  refine⟨_::m,rfl,?_⟩
  rw[hm]
  exact⟨_,e,rfl⟩
 |bslr k xs=>
  simp only[ex,oa,Option.map_eq_some_iff] at h ⊢
  obtain⟨⟨es,s⟩,h1,h2⟩:=h
  cases h2
  have hm:xs.map st2.ev=xs.map st.ev:=List.map_congr_left fun x hx=>hs x (by simpa [I.ops] using hx)
  obtain⟨m,rfl,e⟩:=j7 (xs.map st.ev) h1 (hg.sub (by simp[I.ids,I.mem,I.ops,List.flatMap_map]))
  refine⟨(nid,none)::m,rfl,?_⟩
  rw[hm]
  exact⟨_,e,rfl⟩
 |cut k x oh=>
  simp only[ex] at h ⊢
  rw[hs x (by simp[I.ops]),hs oh (by simp[I.ops])]
  unfold qc at h ⊢
  split at h
  ·rename_i id k' n e1
   have he:=hg id (by simp[I.ids,I.mem,I.ops,e1,V.ids,C.ids])
   split at h
   ·rename_i k2 es m hent hm
    split at h
    ·rename_i hc;cases h;exact⟨[_,(id,none)],rfl,by simp only[e1,he,hent,hm,if_pos hc];rfl⟩
    ·cases h
   ·cases h
  ·cases h
 |clo live g xs=>
  have hm:xs.map st2.ev=xs.map st.ev:=List.map_congr_left fun x hx=>hs x (by simpa [I.ops] using hx)
  cases live with
  |true=>exact one h (by rw[hm])
  |false=>
   simp only[ex,px,Option.map_eq_some_iff] at h ⊢
   obtain⟨⟨bs,s⟩,h1,h2⟩:=h
   cases h2
   obtain⟨m,rfl,e⟩:=tY (xs.map st.ev) h1 (hg.sub (by simp[I.ids,I.mem,I.ops,List.flatMap_map]))
   refine⟨m,rfl,?_⟩
   rw[hm]
   exact⟨_,e,rfl⟩
 |ifc t x=>exact one h (by rw[hs x (by simp[I.ops])])
 |callv own x xs=>cases h
 |sst f x y=>cases h
 |b2s x=>
  refine one h ?_
  rw[hs x (by simp[I.ops])]
  exact yz (hg.sub (fun y hy=>by simp[I.ids,I.mem,I.ops,hy]))
 |mnx mx x y=>exact one h (by rw[hs x (by simp[I.ops]),hs y (by simp[I.ops])])
 |bld zs parts=>
  simp only[ex,Option.map_eq_some_iff] at h ⊢
  obtain⟨r,h1,h2⟩:=h
  cases h2
  refine⟨[],rfl,r,?_,rfl⟩
  rw[ry (st:=st) (fun x hx=>hs x (by simpa [I.ops] using hx))]
  exact h1
 |sl k x lo hi=>
  refine one h ?_
  have e1:cC st2 0 lo=cC st 0 lo:=by cases lo<;>simp[cC,I.ops] at hs ⊢;rw[hs.2.1]
  have e2:(hi.bind fun z=>g7 (st2.ev z))=hi.bind fun z=>g7 (st.ev z):=by
   cases hi with
   |none=>rfl
   |some z=>simp only[Option.bind_some];rw[hs z (by simp[I.ops])]
  rw[hs x (by simp[I.ops]),e1,e2]
 |ssl x lo hi=>
  refine one h ?_
  have e1:cC st2 0 lo=cC st 0 lo:=by cases lo<;>simp[cC,I.ops] at hs ⊢;rw[hs.2.1]
  have e2:(hi.bind fun z=>g7 (st2.ev z))=hi.bind fun z=>g7 (st.ev z):=by
   cases hi with
   |none=>rfl
   |some z=>simp only[Option.bind_some];rw[hs z (by simp[I.ops])]
  rw[hs x (by simp[I.ops]),e1,e2]
 |cvt k x=>exact one h (by rw[hs x (by simp[I.ops])])
 |ext j x=>exact one h (by rw[hs x (by simp[I.ops])])
 |nilc x=>exact one h (by rw[hs x (by simp[I.ops])])
 |pick c x y=>exact one h (by rw[hs c (by simp[I.ops]),hs x (by simp[I.ops]),hs y (by simp[I.ops])])
 |call f own xs=>cases h
 |callm f own x xs=>cases h
 |mkm str=>cases h;exact⟨[_],rfl,rfl⟩
 |mlk str x k=>
  refine one h ?_
  rw[hs x (by simp[I.ops]),hs k (by simp[I.ops])]
  exact yk (hg.sub (fun y hy=>by simp[I.ids,I.mem,I.ops,hy]))
 |mup str x k=>
  simp only[ex,Option.map_eq_some_iff] at h
  obtain⟨s,h1,h2⟩:=h
  cases h2
  obtain⟨m,rfl,e⟩:=wF h1 (hg.sub (fun y hy=>by simp[I.ids,I.mem,I.ops,hy]))
  refine⟨m,rfl,?_⟩
  simp only[ex]
  rw[hs x (by simp[I.ops]),hs k (by simp[I.ops]),e]
  rfl
theorem sC (c:C) (d:D):(∃m,∀st:St,fw st c d=some (st.app m))∨∀st:St,fw st c d=none:=by
 cases c with
 |f id k lo n=>
  cases d with
  |r x=>exact .inr fun _=>rfl
  |o k' es=>
   by_cases hk:k'=k
   ·exact .inl ⟨[_],fun st=>by simp only[fw,if_pos hk];rfl⟩
   ·exact .inr fun st=>by simp only[fw,if_neg hk]
 |p id k i off=>exact .inr fun _=>by simp[fw]
 |un=>exact .inr fun _=>by simp[fw]
 |r x=>exact .inl ⟨[],fun st=>rfl⟩
 |n k=>exact .inl ⟨[],fun st=>rfl⟩
 |m id=>exact .inl ⟨[],fun st=>rfl⟩
theorem pk:∀(cs:List C) (ds:List D),(∃m,∀st:St,dZ st cs ds=some (st.app m))∨∀st:St,dZ st cs ds=none
 |[],[]=>.inl ⟨[],fun _=>rfl⟩
 |[],_::_=>.inr fun _=>rfl
 |_::_,[]=>.inr fun _=>rfl
 |c::cs,d::ds=>by
  rcases sC c d with⟨m,h⟩|h
  ·rcases pk cs ds with⟨m2,h2⟩|h2
   ·exact .inl ⟨m2++m,fun st=>by simp only[dZ,h,h2,cT]⟩
   ·exact .inr fun st=>by simp only[dZ,h,h2]
  ·exact .inr fun st=>by simp only[dZ,h]
theorem zq (nid:Nat) (v:V) (x:AM):(∃m,∀st:St,back nid st v x=some (st.app m))∨∀st:St,back nid st v x=none:=by
 cases v with
 |u vs=>exact .inr fun _=>by simp[back]
 |q cs=>exact .inr fun _=>by simp[back]
 |ifc t x=>exact .inr fun _=>by simp[back]
 |clo g cs=>exact .inr fun _=>by simp[back]
 |g cs=>
  cases x with
  |g ds=>simpa [back] using pk cs ds
  |m d=>exact .inr fun _=>by simp[back]
  |p ds=>exact .inr fun _=>by simp[back]
 |c c=>
  cases x with
  |g ds=>exact .inr fun _=>by simp[back]
  |m d=>cases c<;>first|(simpa [back] using sC _ d)|exact .inr fun _=>by simp[back,fw]
  |p ds=>
   cases c with
   |p id k i off=>
    by_cases hk:ds.length=k
    ·obtain⟨cs,m,h⟩:=gQ ds nid
     exact .inl ⟨_::m,fun st=>by simp only[back,if_pos hk,h];rfl⟩
    ·exact .inr fun st=>by simp only[back,if_neg hk]
   |_=>exact .inr fun _=>by simp[back]
end Go.Vs
namespace Go.Vs
open Go.RowKit
theorem fB:∀(cs:List C) {st st':St} {ds:List D} {id k i:Nat} {es:List (List D)} {cs0:List C},ap st cs=some (ds,st')→st.ent id=some (.opn k es i cs0)→st'.ent id=some (.opn k es i cs0)
 |[],st,st',ds,id,k,i,es,cs0,h,he=>by
  simp[ap] at h
  rw[←h.2];exact he
 |c::cs,st,st',ds,id,k,i,es,cs0,h,he=>by
  cases c with
  |r x=>
   simp only[ap,Option.map_eq_some_iff] at h
   obtain⟨p,hp,h⟩:=h
   cases h
   exact fB cs (st':=p.2) (ds:=p.1) hp he
  |n k0=>
   simp only[ap,Option.map_eq_some_iff] at h
   obtain⟨p,hp,h⟩:=h
   cases h
   exact fB cs (st':=p.2) (ds:=p.1) hp he
  |f id0 k0 lo n=>
   simp only[ap] at h
   split at h
   ·rename_i k' es' he0
    split at h
    ·simp only[Option.map_eq_some_iff] at h
     obtain⟨p,hp,h⟩:=h
     cases h
     refine fB cs (st':=p.2) (ds:=p.1) hp ?_
     rw[ax,if_neg]
     ·exact he
     ·intro e;subst e;rw[he] at he0;cases he0
    ·cases h
   ·cases h
  |p id0 k0 i0 off=>simp[ap] at h
  |un=>simp[ap] at h
  |m id0=>simp[ap] at h
theorem nE:∀(ds:List D) (id n:Nat) (s:St),¬(n≤id∧id<n+ds.length)→(aL n s ds).2.ent id=s.ent id
 |[],_,_,_,_=>rfl
 |d::ds,id,n,s,h=>by
  simp only[aL]
  rw[nE ds _ _ _ (by simp at h;omega)]
  cases d with
  |r x=>rfl
  |o k es=>simp only[eF];rw[bq,if_neg (by simp at h;omega)]
section
variable {φ:Nat→Value} {S:Nat→Prop} {fp:Nat→List Nat} {M:MS} {w0:World} {U:Nat→Prop} {N:Nat} {st st':St} {a:Act} {w w':World} {P:Program}
theorem u9 {es:List (List D)} {i:Nat} {e:List D} (h:es[i]?=some e):i<es.length∧es=es.take i++(e::es.drop (i+1)):=by
 have hlt:=(List.getElem?_eq_some_iff.1 h).1
 refine⟨hlt,?_⟩
 have:=(List.getElem?_eq_some_iff.1 h).2
 rw[←this,List.getElem_cons_drop,List.take_append_drop]
theorem wm (ob f1 fe f3:List Nat) (u:(ob++(f1++(fe++f3))).Nodup):(ob++(f1++f3)).Nodup∧fe.Nodup∧∀b∈ob++(f1++f3),b∉fe:=by
 simp only[List.nodup_append,List.mem_append] at*
 grind
theorem SimX.opn_ (h:SimX φ S fp M w0 U N st a w) {id k i nid:Nat} {es:List (List D)} {e:List D} (he:st.ent id=some (.arr k es)) (hi:es[i]?=some e) (hn:∀c,nid≤c→c<nid+e.length→¬U c):
 ∃φ' fp',SimX φ' S fp' M w0 (fun j=>U j∨(nid≤j∧j<nid+e.length)) N ((aL nid st e).2.set id (.opn k es i (aL nid st e).1)) a w:=by
 obtain⟨u1,u2,u3,u4,u5⟩:=h.ents id _ he
 obtain⟨ty,xs,fps,o1,o2,o5⟩:=u3
 obtain⟨hlt,hsplit⟩:=u9 hi
 rw[hsplit] at o2
 obtain⟨x1,x2,f1,f2,rfl,rfl,g1,g2⟩:=cg _ _ _ _ o2
 simp only[an] at g2
 obtain⟨xe,x3,fe,f3,rfl,rfl,g3,g4⟩:=g2
 have hid0:¬(nid≤id∧id<nid+e.length):=fun hh=>hn id hh.1 hh.2 u1
 have hfree:∀b∈fp id,aT S fp M w0 (st.kill id) w b:=fun b hb=>⟨(u5 b hb).1,(u5 b hb).2.1,(u5 b hb).2.2,fun j e1 h1=>by
  rw[ax] at h1
  by_cases hj:j=id
  ·rw[if_pos hj] at h1;cases h1
  ·rw[if_neg hj] at h1;exact h.disj id _ j e1 he h1 (Ne.symm hj) b hb⟩
 rw[o5] at u4
 obtain⟨n1,n2,n3⟩:=wm _ _ _ _ u4
 obtain⟨φ',fp',q1,q2,q3,q4,q5⟩:=dm e nid (h.kill id) hn g3.2 n2 (fun b hb=>hfree b (by rw[o5];simp[hb]))
 have hnone:(aL nid (st.kill id) e).2.ent id=none:=by
  rw[nE e _ _ _ hid0,ax,if_pos rfl]
 have hfid:φ' id=φ id:=q2 id u1
 have hlen:(es.take i).length+1+(es.drop (i+1)).length=es.length:=by rw[List.length_take,List.length_drop];omega
 have hent:entRep w S φ' (φ' id) (.opn k es i (aL nid (st.kill id) e).1) ((φ id).ownBlock.toList++(f1++f3)):=by
  have hl:=aC _ _ q4
  have hdl:=aG _ _ _ g3.2
  refine⟨hlt,ty,x1,xe,x3,f1,f3,?_,g1,⟨by have:=g3.1;omega,q4⟩,g4,by rw[hfid]⟩
  rw[hlen,hfid]
  exact o1
 have hs:=q1.back (id:=id) (.inl u1) hnone (e:=.opn k es i (aL nid (st.kill id) e).1) q3 hent n1 (fun b hb=>q5 b (hfree b (by rw[o5];simp only[List.mem_append] at hb ⊢;rcases hb with hb|hb|hb<;>simp[hb])) (n3 b hb))
 obtain⟨cs,m,hm⟩:=gQ e nid
 refine⟨φ',_,hs.congr (fun t=>?_) (fun j=>?_)⟩
 ·rw[hm,hm];rfl
 ·rw[hm,hm]
  simp only[bq]
  by_cases hj:j=id
  ·rw[if_pos hj,if_pos hj]
  ·rw[if_neg hj,if_neg hj]
   have:(st.kill id).ent j=st.ent j:=by rw[ax,if_neg hj]
   exact(lu m _ _ j this).symm
theorem wa (ob f1 f f3:List Nat) (u:(ob++(f1++f3)).Nodup) (hf:f.Nodup) (hd:∀b∈f,b∉ob++(f1++f3)):(ob++(f1++(f++f3))).Nodup:=by
 simp only[List.nodup_append,List.mem_append] at*
 grind
theorem SimX.cls_ (h:SimX φ S fp M w0 U N st a w) {id k i:Nat} {es:List (List D)} {cs:List C} {ds:List D} {st1:St} (he:st.ent id=some (.opn k es i cs)) (hab:ap st cs=some (ds,st1)):
 ∃fp',SimX φ S fp' M w0 U N (st1.set id (.arr k (es.set i ds))) a w:=by
 obtain⟨u1,u2,u3,u4,u5⟩:=h.ents id _ he
 obtain⟨hlt,ty,x1,xs,x2,f1,f2,o1,o2,o3,o4,o5⟩:=u3
 obtain⟨F,a1,a2,a3,a4,a5,a6⟩:=a9 cs st st1 ds xs hab h o3.2
 have he1:=fB cs hab he
 have hlen:(es.take i).length+1+(es.drop (i+1)).length=es.length:=by rw[List.length_take,List.length_drop];omega
 have hdl:=aG _ _ _ a1
 have hcl:=aC _ _ o3.2
 have hset:es.set i ds=es.take i++(ds::es.drop (i+1)):=by rw[List.set_eq_take_append_cons_drop,if_pos hlt]
 refine a4.rewrite (w':=w) he1 (F:=(φ id).ownBlock.toList++(f1++(F++f2))) rfl rfl rfl rfl (fun _ _=>rfl) (fun b hb=>by rw[o5];exact ba hb) trivial ?_ ?_ (fun b hb=>?_)
 ·refine⟨ty,x1++(xs++x2),f1++(F++f2),by rw[List.length_set,←hlen];exact o1,?_,rfl⟩
  rw[hset]
  refine en _ _ _ _ _ _ o2 ?_
  simp only[an]
  exact⟨xs,x2,F,f2,rfl,rfl,⟨by have:=o3.1;omega,a1⟩,o4⟩
 ·rw[o5] at u4
  exact wa _ _ _ _ u4 a2 (fun b hb hm=>(a3 b hb).2 id _ he1 (by rw[o5];exact hm))
 ·simp only[List.mem_append] at hb
  rcases hb with hb|hb|hb|hb
  ·exact .inl (by rw[o5];simp only[List.mem_append];exact .inl hb)
  ·exact .inl (by rw[o5];simp[hb])
  ·exact .inr (h.free_of a3 b hb)
  ·exact .inl (by rw[o5];simp[hb])
def fzAt:Nat→List D→List D
 |_,[]=>[]
 |0,d::ds=>.r (j6 d)::ds
 |j+1,d::ds=>d::fzAt j ds
theorem mq:∀(j:Nat) (e:List D),(fzAt j e).length=e.length
 |_,[]=>by simp[fzAt]
 |0,d::ds=>by simp[fzAt]
 |j+1,d::ds=>by simp[fzAt,mq j ds]
theorem pU:∀(j:Nat) (e:List D) (xs:List Value) (F:List Nat),ak w S e xs F→∃(F1 F2:List Nat),List.Sublist F1 F∧(∀b∈F2,b∈F)∧(F.Nodup→∀b∈F1,b∉F2)∧∀S2:Nat→Prop,(∀b,S b→S2 b)→(∀b∈F2,S2 b)→ak w S2 (fzAt j e) xs F1
 |j,[],xs,F,h=>by
  simp only[ak] at h
  obtain⟨rfl,rfl⟩:=h
  exact⟨[],[],by simp,by simp,by simp,fun S2 _ _=>by cases j<;>simp[fzAt,ak]⟩
 |0,d::ds,xs,F,h=>by
  simp only[ak] at h
  obtain⟨y,ys,f1,f2,rfl,rfl,h1,h2⟩:=h
  refine⟨f2,f1,List.sublist_append_right f1 f2,fun b hb=>by simp[hb],fun hn b hb hb'=>(List.nodup_append.1 hn).2.2 b hb' b hb rfl,fun S2 hS hF=>?_⟩
  simp only[fzAt,ak]
  exact⟨y,ys,[],f2,rfl,rfl,by simp only[cv];exact⟨trivial,m9 hS d y f1 h1 hF⟩,bN hS (fun _ _=>rfl) ds ys f2 (fun _ _=>rfl) h2⟩
 |j+1,d::ds,xs,F,h=>by
  simp only[ak] at h
  obtain⟨y,ys,f1,f2,rfl,rfl,h1,h2⟩:=h
  obtain⟨F1,F2,s1,s2,s3,s4⟩:=pU j ds ys f2 h2
  refine⟨f1++F1,F2,List.Sublist.append (List.Sublist.refl _) s1,fun b hb=>by simp[s2 b hb],fun hn b hb hb'=>?_,fun S2 hS hF=>?_⟩
  ·have hn':=List.nodup_append.1 hn
   rcases List.mem_append.1 hb with hb|hb
   ·exact hn'.2.2 b hb b (s2 b hb') rfl
   ·exact s3 hn'.2.1 b hb hb'
  ·simp only[fzAt,ak]
   exact⟨y,ys,f1,F1,rfl,rfl,jg hS (fun _ _=>rfl) d y f1 (fun _ _=>rfl) h1,s4 S2 hS hF⟩
theorem so (j:Nat) {k:Nat}:∀(es:List (List D)) (xs:List Value) (F:List Nat),an w S k es xs F→∃(F1 F2:List Nat),List.Sublist F1 F∧(∀b∈F2,b∈F)∧(F.Nodup→∀b∈F1,b∉F2)∧∀S2:Nat→Prop,(∀b,S b→S2 b)→(∀b∈F2,S2 b)→an w S2 k (es.map (fzAt j)) xs F1
 |[],xs,F,h=>by
  simp only[an] at h
  obtain⟨rfl,rfl⟩:=h
  exact⟨[],[],by simp,by simp,by simp,fun S2 _ _=>by simp[an]⟩
 |e::es,xs,F,h=>by
  simp only[an] at h
  obtain⟨x1,x2,f1,f2,rfl,rfl,h1,h2⟩:=h
  obtain⟨A1,A2,s1,s2,s3,s4⟩:=pU j e x1 f1 h1.2
  obtain⟨B1,B2,t1,t2,t3,t4⟩:=so j es x2 f2 h2
  refine⟨A1++B1,A2++B2,List.Sublist.append s1 t1,fun b hb=>?_,fun hn b hb hb'=>?_,fun S2 hS hF=>?_⟩
  ·rcases List.mem_append.1 hb with hb|hb
   ·simp[s2 b hb]
   ·simp[t2 b hb]
  ·have hn':=List.nodup_append.1 hn
   rcases List.mem_append.1 hb with hb|hb
   ·rcases List.mem_append.1 hb' with hb'|hb'
    ·exact s3 hn'.1 b hb hb'
    ·exact hn'.2.2 b (s1.subset hb) b (t2 b hb') rfl
   ·rcases List.mem_append.1 hb' with hb'|hb'
    ·exact hn'.2.2 b (s2 b hb') b (t1.subset hb) rfl
    ·exact t3 hn'.2.1 b hb hb'
  ·simp only[List.map_cons,an]
   exact⟨x1,x2,A1,B1,rfl,rfl,⟨by rw[mq];exact h1.1,s4 S2 hS (fun b hb=>hF b (by simp[hb]))⟩,t4 S2 hS (fun b hb=>hF b (by simp[hb]))⟩
theorem SimX.fzc_ (h:SimX φ S fp M w0 U N st a w) {id k:Nat} {es:List (List D)} (j:Nat) (he:st.ent id=some (.arr k es)):
 ∃S' fp',SimX φ S' fp' M w0 U N (st.set id (.arr k (es.map (fzAt j)))) a w:=by
 obtain⟨u1,u2,u3,u4,u5⟩:=h.ents id _ he
 obtain⟨ty,xs,fps,o1,o2,o5⟩:=u3
 obtain⟨F1,F2,s1,s2,s3,s4⟩:=so j es xs fps o2
 have hfree:∀b∈fp id,aT S fp M w0 (st.kill id) w b:=fun b hb=>⟨(u5 b hb).1,(u5 b hb).2.1,(u5 b hb).2.2,fun i e1 h1=>by
  rw[ax] at h1
  by_cases hi:i=id
  ·rw[if_pos hi] at h1;cases h1
  ·rw[if_neg hi] at h1;exact h.disj id _ i e1 he h1 (Ne.symm hi) b hb⟩
 rw[o5] at u4
 have hn:=List.nodup_append.1 u4
 have hsub:List.Sublist ((φ id).ownBlock.toList++F1) ((φ id).ownBlock.toList++fps):=List.Sublist.append (List.Sublist.refl _) s1
 have hout:∀b∈(φ id).ownBlock.toList++F1,b∉F2:=fun b hb hb'=>by
  rcases List.mem_append.1 hb with hb|hb
  ·exact hn.2.2 b hb b (s2 b hb') rfl
  ·exact s3 hn.2.1 b hb hb'
 have:=(h.kill id).put_ent (w':=w) (id:=id) (e:=.arr k (es.map (fzAt j))) (hd:=φ id) (F:=(φ id).ownBlock.toList++F1) (S':=fun b=>S b∨b∈F2) (fun i _=>by rw[gV]) (by simp[ax]) rfl rfl rfl (Nat.le_refl _)
  (fun _ _ _=>rfl) (fun _ hb=>.inl hb) (fun b hb=>hb.elim .inl (fun hb=>.inr (.inl (hfree b (by rw[o5];simp[s2 b hb]))))) trivial
  (by rw[gV];exact⟨ty,xs,F1,by rw[List.length_map];exact o1,s4 _ (fun _ hb=>.inl hb) (fun _ hb=>.inr hb),rfl⟩)
  (hsub.nodup u4) (fun b hb=>⟨fun hs=>hs.elim (fun hs=>(u5 b (by rw[o5];exact hsub.subset hb)).2.2 hs) (hout b hb),.inl (hfree b (by rw[o5];exact hsub.subset hb))⟩)
 rw[gV] at this
 exact⟨_,_,(this.mono (U':=U) (fun i hi=>hi.elim (fun x=>x) (fun e=>e▸u1))).congr (fun _=>rfl) (fun i=>by
  rw[bq,bq,ax]
  split<;>rfl)⟩
end
end Go.Vs
namespace Go.Vs
open Go.RowKit
def bx (P:Program) (nid:Nat) (st:St) (s:Ins) (K:St→Prop):Prop:=
 match s.i with
 |.call f own xs=>match gK st xs with
  |some as=>∃res,Fn P f as res∧(fi st xs=false∨res.fresh=true)∧res.count≤16∧K ((bT own nid st res).2.putO s.d (bT own nid st res).1)
  |none=>False
 |.callm f own x xs=>match gF st (st.ev x) with
  |some p=>match gK st xs with
   |some as=>∃(res:X) (a1:AM) (s2:St),FnM P f p.1 as res a1∧fi st xs=false∧res.count≤8∧a1.cnt≤8∧back (nid+8) p.2 (st.ev x) a1=some s2∧K ((bT own nid s2 res).2.putO s.d (bT own nid s2 res).1)
   |none=>False
  |none=>False
 |.callv own x xs=>match st.ev x with
  |.c (.r (.fn g bs))=>match gK st xs with
   |some as=>∃res,(fZ P g=true∧Fn P g (as++bs.map A.q) res)∧(fi st xs=false∨res.fresh=true)∧res.count≤16∧K ((bT own nid st res).2.putO s.d (bT own nid st res).1)
   |none=>False
  |_=>False
 |.sst f x y=>match mG st (st.ev x) (st.ev y) with
  |some p=>∃es',AE P f p.1 p.2.1 p.2.2.1 p.2.2.2.2 es'∧K ((st.set p.2.2.2.1 (.arr p.2.2.1 es')).putO s.d (.u []))
  |none=>False
 |i=>match ex nid st i with
  |some p=>K (p.2.putO s.d p.1)
  |none=>False
def de (P:Program) (nid:Nat) (st:St) (s:Ins) (K:St→Prop):Prop:=
 match s.g with
 |none=>bx P nid st s K
 |some (t,want)=>match st.get t with
  |.c (.r (.v (.bool b)))=>if b=want then bx P nid st s K else K (st.putO s.d (.u []))
  |.u []=>K (st.putO s.d (.u []))
  |_=>False
def wq (P:Program):Nat→St→List Ins→(St→Prop)→Prop
 |_,st,[],K=>K st
 |nid,st,s::ss,K=>de P nid st s fun st'=>wq P (nid+16) st' ss K
section
variable {φ:Nat→Value} {S:Nat→Prop} {fp:Nat→List Nat} {M:MS} {w0:World} {U:Nat→Prop} {N:Nat} {st st':St} {a:Act} {w w':World} {P:Program}
theorem fU (h:SimX φ S fp M w0 U N st a w) {d:Option Nat} {v:V} {y:Value} (hd:∀t,d=some t→t<N) (hu:v.inU U) (hv:vRep w S φ v y):SimX φ S fp M w0 U N (st.putO d v) (a.put d y) w:=by
 cases d with
 |none=>exact h
 |some t=>exact h.put (hd t rfl) hu hv
theorem yX {nid:Nat}:∀i,iy (· <nid) nid i→i<nid+16:=fun i hi=>by
 rcases hi with hi|hi
 ·have:i<nid:=hi
  omega
 ·exact hi.2
theorem lk (hL:Keeps P M.bl w0) {o:Oper} {s:Ins} {nid:Nat} {K:St→Prop} {Q:Exit→Act→World→Prop} (hfit:bi P o.op s.i=true) (hd:o.dst=s.d) (hdN:∀t,s.d=some t→t<N) (h:SimX φ S fp M w0 U N st a w) (hn:∀c,nid≤c→c<nid+16→¬U c) (hg:bx P nid st s K):
 o.wp P a w (fun a' w'=>∃st',K st'∧Sim M w0 (iy U nid) N st' a' w') Q:=by
 unfold bx at hg
 split at hg
 ·rename_i f own xs hi
  split at hg
  ·rename_i as has
   obtain⟨res,hfn,hld,hc,hK⟩:=hg
   rw[hi] at hfit
   simp only[bi] at hfit
   split at hfit
   ·rename_i f' args ats heq
    simp only[Bool.and_eq_true,beq_iff_eq] at hfit
    obtain⟨⟨rfl,hf⟩,hx⟩:=hfit
    refine za heq hf hx has hfn hld hc hL h hn (own:=own) (fun y w' φ2 S2 fp2 hs hu hv=>⟨_,hK,φ2,S2,fp2,?_⟩)
    rw[hd]
    exact fU hs hdN hu hv
   ·cases hfit
  ·cases hg
 ·rename_i f own x xs hi
  split at hg
  ·rename_i p hm
   split at hg
   ·rename_i as has
    obtain⟨res,a1,s2,hfn,hld,hc,hc2,hbk,hK⟩:=hg
    rw[hi] at hfit
    simp only[bi] at hfit
    split at hfit
    ·rename_i f' args ats heq
     simp only[Bool.and_eq_true,beq_iff_eq] at hfit
     obtain⟨⟨rfl,hf⟩,hx⟩:=hfit
     refine wB (own:=own) heq hf hx hm has hld hfn hc hc2 hbk hL h hn (fun y w' φ2 S2 fp2 hs hu hv=>⟨_,hK,φ2,S2,fp2,?_⟩)
     rw[hd]
     exact fU hs hdN hu hv
    ·cases hfit
   ·cases hg
  ·cases hg
 ·rename_i own x xs hi
  split at hg
  ·rename_i g bs hev
   split at hg
   ·rename_i as has
    obtain⟨res,⟨hok,hfn⟩,hld,hc,hK⟩:=hg
    rw[hi] at hfit
    simp only[bi] at hfit
    split at hfit
    ·rename_i y args ats heq
     simp only[Bool.and_eq_true] at hfit
     refine xP heq hfit.1 hev hok hfit.2 has hfn hld hc hL h hn (own:=own) (fun y w' φ2 S2 fp2 hs hu hv=>⟨_,hK,φ2,S2,fp2,?_⟩)
     rw[hd]
     exact fU hs hdN hu hv
    ·cases hfit
   ·cases hg
  ·cases hg
 ·rename_i f x y hi
  split at hg
  ·rename_i p hp
   obtain⟨es',hss,hK⟩:=hg
   obtain⟨n,bid,e1,e2,e3,e4,e5⟩:=tA hp
   rw[hi] at hfit
   simp only[bi] at hfit
   split at hfit
   ·rename_i f' args ats heq
    simp only[Bool.and_eq_true,beq_iff_eq] at hfit
    obtain⟨⟨rfl,hf⟩,hx⟩:=hfit
    refine A6 heq hf hx e1 e2 e3 e4 e5 hss hL h (fun w' S2 fp2 hs=>⟨_,hK,φ,S2,fp2,?_⟩)
    rw[hd]
    exact(fU hs hdN (v:=.u []) (y:=.tuple #[]) (by simp[V.inU,V.insU]) (by simp[vRep,aQ])).mono (fun i hi=>.inl hi)
   ·cases hfit
  ·cases hg
 ·rename_i i hi hi2 hi3 hi4
  split at hg
  ·rename_i p hp
   obtain⟨v,st1⟩:=p
   obtain⟨y,w',φ2,S2,fp2,hr,hs,hu,hv⟩:=yf hfit h (hn nid (Nat.le_refl _) (by omega)) hp
   have fin:∃st',K st'∧Sim M w0 (iy U nid) N st' (a.put o.dst y) w':=by
    refine⟨_,hg,φ2,S2,fp2,?_⟩
    rw[hd]
    exact fU hs hdN hu hv
   unfold Oper.wp
   rcases hr with hr|⟨hr,rfl⟩
   ·rw[hr];exact fin
   ·rw[hr];exact fin
  ·cases hg
theorem qC (h:SimX φ S fp M w0 U N st a w) {ops:Array Oper} {j t:Nat} {b:Bool} (hj:(ops[j]?).bind (·.dst)=some t) (ht:t<N) (hb:st.get t=.c (.r (.v (.bool b)))):yielded ops a.tmps j=some b:=by
 obtain⟨_,_,hv⟩:=h.slots t
 rw[hb] at hv
 have:=(bh hv).1
 unfold yielded
 rw[hj]
 simp only[Option.bind_some]
 rw[Array.getElem?_eq_getElem (by rw[h.size];exact ht)]
 rw[Array.getD_eq_getD_getElem?,Array.getElem?_eq_getElem (by rw[h.size];exact ht)] at this
 simp only[Option.getD_some] at this
 rw[this]
theorem nK (hL:Keeps P M.bl w0) {ops:Array Oper} {i:Nat} {o:Oper} {s:Ins} {nid:Nat} {K:St→Prop} {Q:Exit→Act→World→Prop} (hi:ops[i]?=some o) (hfit:qX P N ops.toList o s=true) (h:SimX φ S fp M w0 U N st a w) (hn:∀c,nid≤c→c<nid+16→¬U c) (hg:de P nid st s K):
 wpOp P ops Q i (fun a' w'=>∃st',K st'∧Sim M w0 (iy U nid) N st' a' w') a w:=by
 simp only[qX,Bool.and_eq_true,beq_iff_eq] at hfit
 obtain⟨⟨⟨hd,hdN⟩,hgd⟩,hop⟩:=hfit
 have hdN':∀t,s.d=some t→t<N:=fun t ht=>by rw[ht] at hdN;simpa using hdN
 unfold wpOp
 rw[hi]
 simp only
 unfold de at hg
 split at hgd
 ·rename_i h1 h2
  rw[h2] at hg
  have hw:Region.wanted o (yielded ops a.tmps)=true:=by unfold Region.wanted;rw[h1]
  rw[if_pos hw]
  exact .inl (lk hL hop hd hdN' h hn hg)
 ·rename_i j b t b' h1 h2
  simp only[Bool.and_eq_true,beq_iff_eq,decide_eq_true_eq] at hgd
  obtain⟨⟨rfl,hj⟩,htN⟩:=hgd
  rw[h2] at hg
  simp only at hg
  split at hg
  ·rename_i c hget
   have hy:=qC h (ops:=ops) (j:=j) (by simpa using hj) htN hget
   split at hg
   ·rename_i hcb
    have hw:Region.wanted o (yielded ops a.tmps)=true:=by unfold Region.wanted;rw[h1];simp[hy,hcb]
    rw[if_pos hw]
    exact .inl (lk hL hop hd hdN' h hn hg)
   ·rename_i hcb
    have hw:¬Region.wanted o (yielded ops a.tmps)=true:=by unfold Region.wanted;rw[h1];simp[hy,hcb]
    rw[if_neg hw]
    refine⟨_,hg,φ,S,fp,?_⟩
    rw[hd]
    exact(fU h hdN' (by simp[V.inU,V.insU]) (by simp[vRep,aQ,undef])).mono (fun i hi=>.inl hi)
  ·rename_i hget
   have hy:yielded ops a.tmps j=none:=by
    obtain⟨_,_,hv⟩:=h.slots t
    rw[hget] at hv
    simp only[vRep,aQ] at hv
    obtain⟨ys,hv,rfl⟩:=hv
    have hsz:t<a.tmps.size:=by rw[h.size];exact htN
    have hj2:(ops[j]?).bind (·.dst)=some t:=by simpa using hj
    unfold yielded
    rw[hj2]
    simp only[Option.bind_some]
    rw[Array.getElem?_eq_getElem hsz]
    rw[Array.getD_eq_getD_getElem?,Array.getElem?_eq_getElem hsz] at hv
    simp only[Option.getD_some] at hv
    rw[hv]
   have hw:¬Region.wanted o (yielded ops a.tmps)=true:=by unfold Region.wanted;rw[h1];simp[hy]
   rw[if_neg hw]
   refine⟨_,hg,φ,S,fp,?_⟩
   rw[hd]
   exact(fU h hdN' (by simp[V.inU,V.insU]) (by simp[vRep,aQ,undef])).mono (fun i hi=>.inl hi)
  ·cases hg
 ·cases hgd
theorem od (hL:Keeps P M.bl w0) {ops:Array Oper} {K:St→Prop} {Q:Exit→Act→World→Prop} {n:Nat} (hQ:∀st a w,K st→Sim M w0 (· <n) N st a w→Q .normal a w):∀(ss:List Ins) (os:List Oper) (k nid:Nat) {st:St} {a:Act} {w:World},nid+16*ss.length=n→bY P N ops.toList os ss=true→(∀j,os[j]?=ops[k+j]?)→Sim M w0 (· <nid) N st a w→wq P nid st ss K→
 wpOps P ops Q (List.range' k ss.length) a w
 |[],[],k,nid,st,a,w,hnid,_,_,h,hk=>by
  simp only[List.length_nil,Nat.mul_zero,Nat.add_zero] at hnid
  subst hnid
  exact hQ st a w hk h
 |s::ss,o::os,k,nid,st,a,w,hnid,hf,hl,h,hk=>by
  simp only[bY,Bool.and_eq_true] at hf
  simp only[List.length_cons] at hnid
  obtain⟨φ,S,fp,h⟩:=h
  have h0:ops[k]?=some o:=by simpa using (hl 0).symm
  rw[List.length_cons,List.range'_succ,wpOps_cons]
  refine wpOp_mono (fun a' w' ⟨st',hK,φ2,S2,fp2,hs⟩=>?_) (nK hL h0 hf.1 h (fun c h1 _ h2=>by have:c<nid:=h2;omega) hk)
  exact od hL hQ ss os (k+1) (nid+16) (by omega) hf.2 (fun j=>by have:=hl (j+1);simpa [Nat.add_assoc,Nat.add_comm 1 j] using this) ⟨φ2,S2,fp2,hs.mono yX⟩ hK
 |[],_::_,_,_,_,_,_,_,hf,_,_,_=>by simp[bY] at hf
 |_::_,[],_,_,_,_,_,_,hf,_,_,_=>by simp[bY] at hf
theorem oe (hL:Keeps P M.bl w0) {id:Nat} {ops:Array Oper} {ss:List Ins} {nid:Nat} {K:St→Prop} {Q:Exit→Act→World→Prop} (hQ:∀st a w,K st→Sim M w0 (· <nid+16*ss.length) N st a w→Q .normal a w) (hf:bY P N ops.toList ops.toList ss=true) (h:Sim M w0 (· <nid) N st a w) (hk:wq P nid st ss K):
 (Code.region id ops false).wp P Q a w:=by
 have hlen:∀(os:List Oper) (ss:List Ins),bY P N ops.toList os ss=true→os.length=ss.length:=by
  intro os
  induction os with
  |nil=>intro ss h;cases ss<;>simp_all [bY]
  |cons o os ih=>
   intro ss h
   cases ss with
   |nil=>simp[bY] at h
   |cons s ss=>
    simp only[bY,Bool.and_eq_true] at h
    rw[List.length_cons,List.length_cons,ih ss h.2]
 have:=od (ops:=ops) hL hQ ss ops.toList 0 nid rfl hf (fun j=>by simp) h hk
 refine wp_region ?_
 rw[List.range_eq_range',←Array.length_toList,hlen _ _ hf]
 exact this
end
end Go.Vs
namespace Go.Vs
open Go.RowKit
structure Eff where
 sl:List (Nat×V)
 tab:List (Nat×Option Ent)
def St.eff (st:St) (e:Eff):St:={sl:=e.sl++st.sl,tab:=e.tab++st.tab}
structure Fx where
 rs:List Nat
 ri:List Nat
 ws:List Nat
 wi:List Nat
def O.sls:O→List Nat
 |.t n=>[n]
 |.k _=>[]
def rZ:List O→List Nat
 |[]=>[]
 |x::xs=>x.sls++rZ xs
def Ins.rs (s:Ins):List Nat:=(match s.g with
 |some (t,_)=>[t]
 |none=>[])++rZ s.i.ops
def ek {α:Type}:List (Nat×α)→List Nat
 |[]=>[]
 |p::r=>p.1::ek r
def Ins.fx (st st':St) (s:Ins):Fx:={rs:=s.rs,ri:=s.i.ids st,ws:=s.d.toList,wi:=ek (st'.tab.take (st'.tab.length-st.tab.length))}
def rx:List Nat→Nat→Bool
 |[],_=>false
 |y::ys,x=>Nat.beq x y||rx ys x
def disj:List Nat→List Nat→Bool
 |[],_=>true
 |x::xs,ys=> !rx ys x&&disj xs ys
def Fx.apart (a b:Fx):Bool:=disj a.ws b.rs&&disj a.ws b.ws&&disj a.wi b.ri&&disj a.wi b.wi&&disj b.ws a.rs&&disj b.wi a.ri
def qE (f:Fx) (cl:List Nat):Nat→List Fx→Bool
 |_,[]=>true
 |i,g::gs=>(rx cl i||g.apart f)&&qE f cl (i+1) gs
def k7:List Fx→List Fx→List (List Nat)→Bool
 |_,[],_=>true
 |pre,f::fs,cl::cls=>qE f cl 0 pre&&k7 (pre++[f]) fs cls
 |_,_::_,[]=>false
def sb (cls:List (List Nat)) (fs:List Fx):Bool:=k7 [] fs cls
theorem gL:∀(l:List Nat) (x:Nat),rx l x=true↔x∈l
 |[],x=>by simp[rx]
 |y::ys,x=>by simp[rx,gL ys x]
theorem eH:∀{a b:List Nat},disj a b=true→∀x∈a,x∉b
 |[],b,_,x,hx=>by simp at hx
 |y::ys,b,h,x,hx=>by
  simp only[disj,Bool.and_eq_true,Bool.not_eq_true'] at h
  rcases List.mem_cons.1 hx with rfl|hx
  ·intro hb;rw[(gL b x).2 hb] at h;exact absurd h.1 (by simp)
  ·exact eH h.2 x hx
theorem lX {f:Fx} {cl:List Nat}:∀(pre:List Fx) (k:Nat),qE f cl k pre=true→∀i g,pre[i]?=some g→(k+i)∈cl∨g.apart f=true
 |[],k,_,i,g,hg=>by simp at hg
 |p::pre,k,h,i,g,hg=>by
  simp only[qE,Bool.and_eq_true,Bool.or_eq_true] at h
  cases i with
  |zero=>simp at hg;subst hg;exact h.1.imp (fun x=>(gL _ _).1 x) (fun x=>x)
  |succ i=>
   have:=lX pre (k+1) h.2 i g (by simpa using hg)
   rwa [show k+1+i=k+(i+1) by omega] at this
theorem kM:∀(fs pre:List Fx) (cls:List (List Nat)),k7 pre fs cls=true→∀j f,fs[j]?=some f→∀i g,i<pre.length+j→(pre++fs)[i]?=some g→i∈cls.getD j []∨g.apart f=true
 |[],pre,cls,_,j,f,hf=>by simp at hf
 |f0::fs,pre,cls,h,j,f,hf=>by
  intro i g hi hg
  cases cls with
  |nil=>simp[k7] at h
  |cons cl cls=>
   simp only[k7,Bool.and_eq_true] at h
   cases j with
   |zero=>
    simp at hf
    subst hf
    have:=lX pre 0 h.1 i g (by rw[List.getElem?_append_left (by omega)] at hg;exact hg)
    simpa using this
   |succ j=>
    have:=kM fs (pre++[f0]) cls h.2 j f (by simpa using hf) i g (by simp;omega) (by simpa using hg)
    simpa using this
theorem oT {fs:List Fx} {cls:List (List Nat)} (h:sb cls fs=true) {i j:Nat} {g f:Fx} (hij:i<j) (hg:fs[i]?=some g) (hf:fs[j]?=some f):i∈cls.getD j []∨g.apart f=true:=
 kM fs [] cls h j f hf i g (by simpa using hij) (by simpa using hg)
def ca {α:Type} (D:Nat→Bool):Nat→List (List (Nat×α))→List (Nat×α)→List (Nat×α)
 |_,[],l=>l
 |k,e::es,l=>ca D (k+1) es (if D k=true then e++l else l)
theorem kn {α:Type} {d:α}:∀(e l:List (Nat×α)) (t:Nat),t∉ek e→aB d (e++l) t=aB d l t
 |[],_,_,_=>rfl
 |p::e,l,t,h=>by
  simp only[ek,List.mem_cons,not_or] at h
  simp only[List.cons_append,aB,if_neg h.1]
  exact kn e l t h.2
theorem jO {α:Type} {d:α}:∀(e l l2:List (Nat×α)) (t:Nat),t∈ek e→aB d (e++l) t=aB d (e++l2) t
 |[],_,_,_,h=>by simp[ek] at h
 |p::e,l,l2,t,h=>by
  simp only[ek,List.mem_cons] at h
  simp only[List.cons_append,aB]
  split
  ·rfl
  ·rename_i hn;exact jO e l l2 t (h.resolve_left hn)
theorem eP {α:Type} {d:α} {D D':Nat→Bool} {t:Nat}:∀(es:List (List (Nat×α))) (k:Nat) (l l':List (Nat×α)),(∀i e,es[i]?=some e→t∈ek e→D (k+i)=D' (k+i))→aB d l t=aB d l' t→aB d (ca D k es l) t=aB d (ca D' k es l') t
 |[],k,l,l',_,h=>h
 |e::es,k,l,l',hd,h=>by
  simp only[ca]
  refine eP es (k+1) _ _ (fun i e' he ht=>by
   have:=hd (i+1) e' (by simpa using he) ht
   rwa [show k+(i+1)=k+1+i by omega] at this) ?_
  by_cases ht:t∈ek e
  ·have:=hd 0 e (by simp) ht
   simp only[Nat.add_zero] at this
   rw[this]
   cases D' k with
   |true=>rw[if_pos rfl,if_pos rfl];exact jO e l l' t ht
   |false=>rw[if_neg (by simp),if_neg (by simp)];exact h
  ·have e1:∀(b:Bool) (l:List (Nat×α)),aB d (if b=true then e++l else l) t=aB d l t:=fun b l=>by
    cases b with
    |true=>rw[if_pos rfl];exact kn e l t ht
    |false=>rw[if_neg (by simp)]
   rw[e1,e1]
   exact h
theorem ow {α:Type}:∀(es:List (List (Nat×α))) (k j:Nat) (l:List (Nat×α)) (e:List (Nat×α)),es[j]?=some e→ca (fun i=>decide (i<k+j+1)) k es l=e++ca (fun i=>decide (i<k+j)) k es l
 |[],k,j,l,e,h=>by simp at h
 |e0::es,k,j,l,e,h=>by
  have none:∀(es:List (List (Nat×α))) (k m:Nat) (l:List (Nat×α)),m≤k→ca (fun i=>decide (i<m)) k es l=l:=by
   intro es
   induction es with
   |nil=>intro k m l _;rfl
   |cons e es ih=>
    intro k m l hm
    simp only[ca]
    have:¬(k<m):=by omega
    simp only[this,decide_false,Bool.false_eq_true,if_false]
    exact ih (k+1) m l (by omega)
  cases j with
  |zero=>
   simp at h
   subst h
   simp only[ca,Nat.add_zero]
   have h1:k<k+1:=by omega
   simp only[h1,decide_true,if_true,Nat.lt_irrefl,decide_false,Bool.false_eq_true,if_false]
   rw[none es (k+1) (k+1) _ (Nat.le_refl _),none es (k+1) k _ (by omega)]
  |succ j=>
   simp only[ca]
   have h1:k<k+(j+1)+1:=by omega
   have h2:k<k+(j+1):=by omega
   simp only[h1,h2,decide_true,if_true]
   have:=ow es (k+1) j (e0++l) e (by simpa using h)
   rw[show k+(j+1)=k+1+j by omega]
   exact this
def stD (D:Nat→Bool) (es:List Eff) (st:St):St:={sl:=ca D 0 (es.map (·.sl)) st.sl,tab:=ca D 0 (es.map (·.tab)) st.tab}
def same (st st2:St):Prop:=(∀t,st2.get t=st.get t)∧∀id,st2.ent id=st.ent id
theorem Sim.of_same {M:MS} {w0:World} {U:Nat→Prop} {N:Nat} {st st2:St} {a:Act} {w:World} (h:Sim M w0 U N st a w) (hs:same st st2):Sim M w0 U N st2 a w:=by
 obtain⟨φ,S,fp,h⟩:=h
 exact⟨φ,S,fp,{h with
  ents:=fun id e hh=>h.ents id e (by rw[←hs.2];exact hh)
  disj:=fun id e id' e' h1 h2=>h.disj id e id' e' (by rw[←hs.2];exact h1) (by rw[←hs.2];exact h2)
  slots:=fun t=>by rw[hs.1];exact h.slots t}⟩
end Go.Vs
namespace Go.Vs
open Go.RowKit
def dl:Option Nat→V→List (Nat×V)
 |some d,v=>[(d,v)]
 |none,_=>[]
theorem cj (st:St) (m:List (Nat×Option Ent)) (d:Option Nat) (v:V):(st.app m).putO d v=st.eff ⟨dl d v,m⟩:=by cases d<;>rfl
theorem ii (d:Option Nat) (v:V):ek (dl d v)=d.toList:=by cases d<;>rfl
theorem hB {xs:List O} {st st2:St} (h:∀t∈rZ xs,st2.get t=st.get t):∀x∈xs,st2.ev x=st.ev x:=by
 induction xs with
 |nil=>intro x hx;cases hx
 |cons y ys ih=>
  intro x hx
  simp only[rZ,List.mem_append] at h
  rcases List.mem_cons.1 hx with rfl|hx
  ·cases x with
   |t n=>exact h n (.inl (by simp[O.sls]))
   |k v=>rfl
  ·exact ih (fun t ht=>h t (.inr ht)) x hx
theorem kT {st st2:St}:∀{xs:List O},(∀x∈xs,st2.ev x=st.ev x)→fi st2 xs=fi st xs
 |[],_=>rfl
 |x::xs,h=>by simp only[fi];rw[h x (by simp),kT fun y hy=>h y (by simp[hy])]
section
variable {P:Program} {nid:Nat} {s:Ins}
theorem Ad (st:St) (e:Eff) (s:Ins):(s.fx st (st.eff e)).wi=ek e.tab:=by
 simp[Ins.fx,St.eff]
theorem ma {st:St} {K K':St→Prop} (hk:∀x,K x→K' x) (h:bx P nid st s K):bx P nid st s K':=by
 unfold bx at h ⊢
 split at h
 ·split at h
  ·obtain⟨res,h1,hl,h2,h3⟩:=h
   exact⟨res,h1,hl,h2,hk _ h3⟩
  ·cases h
 ·split at h
  ·split at h
   ·obtain⟨res,a1,s2,h1,h2,h3,h4,h5,h6⟩:=h
    exact⟨res,a1,s2,h1,h2,h3,h4,h5,hk _ h6⟩
   ·cases h
  ·cases h
 ·split at h
  ·split at h
   ·obtain⟨res,h1,hl,h2,h3⟩:=h
    exact⟨res,h1,hl,h2,hk _ h3⟩
   ·cases h
  ·cases h
 ·split at h
  ·obtain⟨es',h1,h2⟩:=h
   exact⟨es',h1,hk _ h2⟩
  ·cases h
 ·split at h
  ·exact hk _ h
  ·cases h
theorem qn {st:St} {K:St→Prop} (h:bx P nid st s K):∃st',K st'∧bx P nid st s (· =st'):=by
 unfold bx at h ⊢
 split at h
 ·split at h
  ·obtain⟨res,h1,hl,h2,h3⟩:=h
   exact⟨_,h3,res,h1,hl,h2,rfl⟩
  ·cases h
 ·split at h
  ·split at h
   ·obtain⟨res,a1,s2,h1,h2,h3,h4,h5,h6⟩:=h
    exact⟨_,h6,res,a1,s2,h1,h2,h3,h4,h5,rfl⟩
   ·cases h
  ·cases h
 ·split at h
  ·split at h
   ·obtain⟨res,h1,hl,h2,h3⟩:=h
    exact⟨_,h3,res,h1,hl,h2,rfl⟩
   ·cases h
  ·cases h
 ·split at h
  ·obtain⟨es',h1,h2⟩:=h
   exact⟨_,h2,es',h1,rfl⟩
  ·cases h
 ·split at h
  ·exact⟨_,h,rfl⟩
  ·cases h
theorem qL {st:St} {K:St→Prop} (h:de P nid st s K):∃st',K st'∧de P nid st s (· =st'):=by
 unfold de at h ⊢
 split at h
 ·exact qn h
 ·split at h
  ·split at h
   ·rename_i hw;simp only[if_pos hw];exact qn h
   ·rename_i hw;simp only[if_neg hw];exact⟨_,h,rfl⟩
  ·exact⟨_,h,rfl⟩
  ·cases h
theorem pw {st:St} {K K':St→Prop} (hk:∀x,K x→K' x) (h:de P nid st s K):de P nid st s K':=by
 unfold de at h ⊢
 split at h
 ·exact ma hk h
 ·split at h
  ·split at h
   ·rename_i hw;simp only[if_pos hw];exact ma hk h
   ·rename_i hw;simp only[if_neg hw];exact hk _ h
  ·exact hk _ h
  ·cases h
theorem qe {st st':St} (h:bx P nid st s (· =st')):∃e:Eff,st'=st.eff e∧ek e.sl=s.d.toList∧∀st2:St,(∀t∈rZ s.i.ops,st2.get t=st.get t)→(∀id∈s.i.ids st,st2.ent id=st.ent id)→bx P nid st2 s (· =st2.eff e):=by
 unfold bx at h
 split at h
 ·rename_i f own xs hi
  split at h
  ·rename_i as has
   obtain⟨res,h1,hl,h2,rfl⟩:=h
   obtain⟨v,m,hm⟩:=nM own nid res
   refine⟨⟨dl s.d v,m⟩,by rw[hm];exact cj _ _ _ _,ii _ _,fun st2 hs hd=>?_⟩
   unfold bx
   rw[hi] at hs hd ⊢
   simp only
   rw[na (xs:=xs) (hB (xs:=xs) hs) (fun id hid=>hd id (by simpa [I.ids,I.mem,I.ops] using hid)),has]
   exact⟨res,h1,by rw[kT (hB (xs:=xs) hs)];exact hl,h2,by rw[hm];exact cj _ _ _ _⟩
  ·cases h
 ·rename_i f own x xs hi
  split at h
  ·rename_i p hp
   obtain⟨a0,s1⟩:=p
   split at h
   ·rename_i as has
    obtain⟨res,a1,s2,h1,h2,h3,h4,h5,rfl⟩:=h
    obtain⟨m0,e0,_⟩:=uF (st2:=st) hp (fun _ _=>rfl)
    rcases zq (nid+8) (st.ev x) a1 with⟨m1,hb⟩|hb
    ·obtain⟨v,m2,hm⟩:=nM own nid res
     have hs2:s2=(st.app m0).app m1:=by
      rw[hb,e0] at h5
      exact(Option.some.inj h5).symm
     subst hs2
     refine⟨⟨dl s.d v,m2++(m1++m0)⟩,by rw[hm,cT,cT,List.append_assoc];exact cj _ _ _ _,ii _ _,fun st2 hs hd=>?_⟩
     unfold bx
     rw[hi] at hs hd ⊢
     simp only
     have hx:st2.ev x=st.ev x:=hB (xs:=x::xs) hs x (by simp)
     have hxs:∀y∈xs,st2.ev y=st.ev y:=fun y hy=>hB (xs:=x::xs) hs y (by simp[hy])
     obtain⟨m0',e1,e2⟩:=uF (st2:=st2) hp (fun id hid=>hd id (by simp only[I.ids];exact List.mem_append_left _ hid))
     have hmm:m0'=m0:=by
      have:=congrArg St.tab (e1.symm.trans e0)
      simpa [St.app] using this
     subst hmm
     rw[hx,e2]
     simp only
     rw[na hxs (fun id hid=>hd id (by simp only[I.ids];exact List.mem_append_right _ hid)),has]
     exact⟨res,a1,_,h1,by rw[kT hxs];exact h2,h3,h4,hb _,by rw[hm,cT,cT,List.append_assoc];exact cj _ _ _ _⟩
    ·rw[hb] at h5;cases h5
   ·cases h
  ·cases h
 ·rename_i own x xs hi
  split at h
  ·rename_i g bs hev
   split at h
   ·rename_i as has
    obtain⟨res,h1,hl,h2,rfl⟩:=h
    obtain⟨v,m,hm⟩:=nM own nid res
    refine⟨⟨dl s.d v,m⟩,by rw[hm];exact cj _ _ _ _,ii _ _,fun st2 hs hd=>?_⟩
    unfold bx
    rw[hi] at hs hd ⊢
    simp only
    have hx:st2.ev x=st.ev x:=hB (xs:=x::xs) hs x (by simp)
    have hxs:∀y∈xs,st2.ev y=st.ev y:=fun y hy=>hB (xs:=x::xs) hs y (by simp[hy])
    rw[hx,hev]
    simp only
    rw[na hxs (fun id hid=>hd id (by simp only[I.ids,I.mem,I.ops,if_true,List.flatMap_cons];exact List.mem_append_right _ hid)),has]
    exact⟨res,h1,by rw[kT hxs];exact hl,h2,by rw[hm];exact cj _ _ _ _⟩
   ·cases h
  ·cases h
 ·rename_i f x y hi
  split at h
  ·rename_i p hp
   obtain⟨es',h1,rfl⟩:=h
   refine⟨⟨dl s.d (.u []),[(p.2.2.2.1,some (.arr p.2.2.1 es'))]⟩,by rw[uM];exact cj _ _ _ _,ii _ _,fun st2 hs hd=>?_⟩
   unfold bx
   rw[hi] at hs hd ⊢
   simp only
   have hx:st2.ev x=st.ev x:=hB (xs:=[x,y]) hs x (by simp)
   have hy:st2.ev y=st.ev y:=hB (xs:=[x,y]) hs y (by simp)
   rw[hx,hy,xQ (st:=st) (fun id hid=>hd id (by simpa [I.ids,I.mem,I.ops] using hid)),hp]
   exact⟨es',h1,by rw[uM];exact cj _ _ _ _⟩
  ·cases h
 ·rename_i i hi hi3 hi5 hi7
  split at h
  ·rename_i p hp
   obtain⟨v,s'⟩:=p
   obtain⟨m,rfl,_⟩:=zM (st2:=st) hp (fun _ _=>rfl) (fun _ _=>rfl)
   refine⟨⟨dl s.d v,m⟩,by rw[←h];exact cj _ _ _ _,ii _ _,fun st2 hs hd=>?_⟩
   obtain⟨m2,he,hx⟩:=zM (st2:=st2) hp (hB hs) hd
   have hmm:m2=m:=by
    have:=congrArg St.tab he
    simpa [St.app] using this.symm
   subst hmm
   unfold bx
   split
   ·rename_i f own xs hi2
    exact absurd hi2 (hi f own xs)
   ·rename_i f own x xs hi2
    exact absurd hi2 (hi3 f own x xs)
   ·rename_i own x xs hi2
    exact absurd hi2 (hi5 own x xs)
   ·rename_i f x y hi2
    exact absurd hi2 (hi7 f x y)
   ·rw[hx]
    exact cj _ _ _ _
  ·cases h
theorem zA {st st':St} (h:de P nid st s (· =st')):∃e:Eff,st'=st.eff e∧ek e.sl=s.d.toList∧∀st2:St,(∀t∈s.rs,st2.get t=st.get t)→(∀id∈s.i.ids st,st2.ent id=st.ent id)→de P nid st2 s (· =st2.eff e):=by
 unfold de at h
 split at h
 ·rename_i hg
  obtain⟨e,h1,h2,h3⟩:=qe h
  refine⟨e,h1,h2,fun st2 hs hd=>?_⟩
  unfold de
  rw[hg]
  exact h3 st2 (fun t ht=>hs t (by simp[Ins.rs,ht])) hd
 ·rename_i t want hg
  split at h
  ·rename_i b hb
   have hrs:t∈s.rs:=by simp[Ins.rs,hg]
   split at h
   ·rename_i hw
    obtain⟨e,h1,h2,h3⟩:=qe h
    refine⟨e,h1,h2,fun st2 hs hd=>?_⟩
    unfold de
    rw[hg]
    simp only[hs t hrs,hb,if_pos hw]
    exact h3 st2 (fun t ht=>hs t (by simp[Ins.rs,ht])) hd
   ·rename_i hw
    refine⟨⟨dl s.d (.u []),[]⟩,by rw[←h];exact cj st [] _ _,ii _ _,fun st2 hs hd=>?_⟩
    unfold de
    rw[hg]
    simp only[hs t hrs,hb,if_neg hw]
    exact cj st2 [] _ _
  ·rename_i hb
   have hrs:t∈s.rs:=by simp[Ins.rs,hg]
   refine⟨⟨dl s.d (.u []),[]⟩,by rw[←h];exact cj st [] _ _,ii _ _,fun st2 hs hd=>?_⟩
   unfold de
   rw[hg]
   simp only[hs t hrs,hb]
   exact cj st2 [] _ _
  ·cases h
end
def nD (P:Program) (cls:List (List Nat)):Nat→St→List Ins→List Fx→(St→Prop)→Prop
 |_,st,[],acc,K=>sb cls acc.reverse=true∧K st
 |nid,st,s::ss,acc,K=>de P nid st s fun st'=>nD P cls (nid+16) st' ss (s.fx st st'::acc) K
def Chain (P:Program):Nat→St→List Ins→List Eff→List Fx→Prop
 |_,_,[],[],[]=>True
 |nid,st,s::ss,e::es,f::fs=>(de P nid st s (· =st.eff e)∧f.rs=s.rs∧f.ri=s.i.ids st∧f.ws=s.d.toList∧f.ws=ek e.sl∧f.wi=ek e.tab∧
  ∀st2:St,(∀t∈f.rs,st2.get t=st.get t)→(∀id∈f.ri,st2.ent id=st.ent id)→de P nid st2 s (· =st2.eff e))∧Chain P (nid+16) (st.eff e) ss es fs
 |_,_,_,_,_=>False
def vj (st:St):List Eff→St
 |[]=>st
 |e::es=>vj (st.eff e) es
theorem mE {P:Program} {cls:List (List Nat)} {K:St→Prop}:∀(ss:List Ins) (nid:Nat) (st:St) (acc:List Fx),nD P cls nid st ss acc K→∃es fs,Chain P nid st ss es fs∧sb cls (acc.reverse++fs)=true∧K (vj st es)
 |[],nid,st,acc,h=>⟨[],[],by simp[Chain],by simpa using h.1,h.2⟩
 |s::ss,nid,st,acc,h=>by
  simp only[nD] at h
  obtain⟨st',h1,h2⟩:=qL h
  obtain⟨e,rfl,h3,h4⟩:=zA h2
  obtain⟨es,fs,c1,c2,c3⟩:=mE ss _ _ _ h1
  refine⟨e::es,s.fx st (st.eff e)::fs,⟨⟨h2,rfl,rfl,rfl,h3.symm,Ad st e s,h4⟩,c1⟩,by simpa using c2,c3⟩
theorem Chain.at {P:Program}:∀(ss:List Ins) (nid:Nat) (st:St) (es:List Eff) (fs:List Fx),Chain P nid st ss es fs→es.length=ss.length∧fs.length=ss.length∧vj st es=stD (fun _=>true) es st∧
 ∀j s,ss[j]?=some s→∃e f,es[j]?=some e∧fs[j]?=some f∧f.ws=ek e.sl∧f.wi=ek e.tab∧
  ∀st2:St,(∀t∈f.rs,st2.get t=(stD (fun i=>decide (i<j)) es st).get t)→(∀id∈f.ri,st2.ent id=(stD (fun i=>decide (i<j)) es st).ent id)→de P (nid+16*j) st2 s (· =st2.eff e)
 |[],nid,st,[],[],_=>⟨rfl,rfl,rfl,fun j s h=>by simp at h⟩
 |s::ss,nid,st,e::es,f::fs,h=>by
  obtain⟨⟨h1,h2,h3,h4,h5,h6,h7⟩,hc⟩:=h
  obtain⟨l1,l2,l3,l4⟩:=Chain.at ss _ _ es fs hc
  have hsh:∀{α:Type} (es:List (List (Nat×α))) (j k:Nat) (l:List (Nat×α)),ca (fun i=>decide (i<j+1)) (k+1) es l=ca (fun i=>decide (i<j)) k es l:=by
   intro α es
   induction es with
   |nil=>intro j k l;rfl
   |cons e es ih=>
    intro j k l
    simp only[ca]
    rw[ih]
    simp
  refine⟨by simp[l1],by simp[l2],?_,fun j s' hs=>?_⟩
  ·simp only[vj]
   rw[l3]
   have:∀{α:Type} (es:List (List (Nat×α))) (k k':Nat) (l:List (Nat×α)),ca (fun _=>true) k es l=ca (fun _=>true) k' es l:=by
    intro α es
    induction es with
    |nil=>intro k k' l;rfl
    |cons e es ih=>intro k k' l;simp only[ca];exact ih _ _ _
   simp only[stD,List.map_cons,ca,if_true,St.eff]
   rw[this (es.map (·.sl)) 0 1,this (es.map (·.tab)) 0 1]
  ·cases j with
   |zero=>
    simp at hs
    subst hs
    refine⟨e,f,rfl,rfl,h5,h6,fun st2 hs hd=>?_⟩
    have e0:stD (fun i=>decide (i<0)) (e::es) st=st:=by
     have:∀{α:Type} (es:List (List (Nat×α))) (k:Nat) (l:List (Nat×α)),ca (fun i=>decide (i<0)) k es l=l:=by
      intro α es
      induction es with
      |nil=>intro k l;rfl
      |cons e es ih=>intro k l;simp only[ca];rw[ih];simp
     simp only[stD,this]
    rw[e0] at hs hd
    exact h7 st2 hs hd
   |succ j=>
    obtain⟨e',f',a1,a2,a3,a4,a5⟩:=l4 j s' (by simpa using hs)
    refine⟨e',f',by simpa using a1,by simpa using a2,a3,a4,fun st2 hs hd=>?_⟩
    have e1:stD (fun i=>decide (i<j+1)) (e::es) st=stD (fun i=>decide (i<j)) es (st.eff e):=by
     have hj:(0:Nat)<j+1:=by omega
     simp only[stD,List.map_cons,ca,hj,decide_true,if_true,St.eff,Nat.zero_add]
     rw[hsh (es.map (·.sl)) j 0,hsh (es.map (·.tab)) j 0]
    rw[e1] at hs hd
    have:=a5 st2 hs hd
    rwa [show nid+16* (j+1)=nid+16+16*j by omega]
 |[],_,_,_::_,_,h=>by simp[Chain] at h
 |[],_,_,[],_::_,h=>by simp[Chain] at h
 |_::_,_,_,[],_,h=>by simp[Chain] at h
 |_::_,_,_,_::_,[],h=>by simp[Chain] at h
end Go.Vs
