/- Part of the proofs of this seat's laws: Vb. No condition. -/
import Derived.Test.YtdgkokanccedkaaGreatDoorVa
set_option linter.unusedVariables false
set_option linter.unusedSimpArgs false
set_option linter.unusedSectionVars false
namespace Go.Vs
open Go.RowKit
def C.solid:C→Bool
 |.m _=>false
 |.un=>false
 |_=>true
def Cs.solid:List C→Bool
 |[]=>true
 |c::cs=>c.solid&&Cs.solid cs
def cD:V→Option (List C)
 |.g cs=>some cs
 |.c x=>some [x]
 |_=>none
def ap (st:St):List C→Option (List D×St)
 |[]=>some ([],st)
 |.r x::r=>(ap st r).map fun p=>(.r x::p.1,p.2)
 |.n k::r=>(ap st r).map fun p=>(.o k []::p.1,p.2)
 |.f id k lo n::r=>match st.ent id with
  |some (.arr k' es)=>if lo=0∧k'=k∧n=es.length then(ap (st.kill id) r).map fun p=>(.o k es::p.1,p.2) else none
  |_=>none
 |_=>none
section
variable {φ:Nat→Value} {S:Nat→Prop} {fp:Nat→List Nat} {M:MS} {w0:World} {U:Nat→Prop} {N:Nat} {st st':St} {a:Act} {w w':World} {P:Program}
theorem jr {c:C} {y:Value} (hs:c.solid=true) (h:av w S φ c y):y.oneCell'=true:=by
 cases c with
 |un=>simp[C.solid] at hs
 |m id=>simp[C.solid] at hs
 |r x=>
  cases x with
  |v z=>simp only[av,aY] at h;rw[h.1];exact h.2
  |s k es=>simp only[av,aY] at h;obtain⟨ad,cap,rfl,_⟩:=h;rfl
  |fn g bs=>simp only[av,aY] at h;obtain⟨lb,rfl,_⟩:=h;rfl
 |n k=>simp only[av] at h;rw[h];rfl
 |f id k lo n=>
  obtain⟨ad,c,rfl,_⟩:=dJ (by simpa [vRep] using h)
  rfl
 |p id k i off=>simp only[av] at h;obtain⟨b,_,_,_,rfl⟩:=h;rfl
theorem nA:∀{cs:List C} {ys:List Value},Cs.solid cs=true→ar w S φ cs ys→∀y∈ys,y.oneCell'=true
 |[],ys,_,h=>by simp[ar] at h;subst h;simp
 |c::cs,ys,hs,h=>by
  simp only[Cs.solid,Bool.and_eq_true] at hs
  obtain⟨z,zs,rfl,h2,h3⟩:=h
  intro y hy
  rcases List.mem_cons.1 hy with rfl|hy
  ·exact jr hs.1 h2
  ·exact nA hs.2 h3 y hy
theorem vD {y:Value} (h:y.oneCell'=true):y.cells=#[y]:=by cases y<;>first|rfl|simp[Value.oneCell'] at h
theorem gq {v:V} {cs:List C} {y:Value} (h:cD v=some cs) (hs:Cs.solid cs=true) (hv:vRep w S φ v y):ar w S φ cs y.cells.toList:=by
 unfold cD at h
 split at h
 ·cases h
  simp only[vRep] at hv
  obtain⟨ys,rfl,hr⟩:=hv
  simpa [Value.cells] using hr
 ·rename_i x
  cases h
  simp only[vRep] at hv
  simp only[Cs.solid,Bool.and_true] at hs
  rw[vD (jr hs hv)]
  exact⟨y,[],rfl,hv,rfl⟩
 ·cases h
theorem kp {v:V} {cs:List C} (h:cD v=some cs) (hu:v.inU U):Cs.inU U cs:=by
 unfold cD at h
 split at h
 ·cases h;simpa [V.inU] using hu
 ·cases h;exact⟨by simpa [V.inU] using hu,trivial⟩
 ·cases h
theorem mQ (w:World) (ty k:Nat):w.ownsRow 0 ty k (.slice none 0 0) 0 []:=World.ownsRow_nil w 0 ty k
theorem r9 (k:Nat):cv w S (.o k []) (.slice none 0 0) []:=by
 simp only[cv]
 exact⟨0,[],[],mQ w 0 k,by simp[an],rfl⟩
theorem rl {id k n:Nat} {y:Value} {ty:Nat} {xs:List Value} (h:av w S φ (.f id k 0 n) y) (ho:w.ownsRow 0 ty k (φ id) n xs):y=φ id:=by
 simp only[av] at h
 rcases h with⟨_,_,h1,h2⟩|⟨_,b,N',cap,hh,h2,_⟩|⟨h0,_⟩
 ·rw[h1,h2]
 ·rcases ho.2 with⟨hn,_⟩|⟨g,c,cur,hv,_⟩
  ·rw[hh] at hn;cases hn
  ·rw[hh] at hv ⊢
   cases hv
   exact h2
 ·omega
theorem a9:∀(cs:List C) (st st':St) (ds:List D) (ys:List Value),ap st cs=some (ds,st')→SimX φ S fp M w0 U N st a w→ar w S φ cs ys→
 ∃F,ak w S ds ys F∧F.Nodup∧(∀b∈F,(∃i e,st.ent i=some e∧b∈fp i)∧∀i e,st'.ent i=some e→b∉fp i)∧SimX φ S fp M w0 U N st' a w∧(∀t,st'.get t=st.get t)∧(∀i e,st'.ent i=some e→st.ent i=some e)
 |[],st,st',ds,ys,h,hs,hr=>by
  simp[ap] at h
  obtain⟨rfl,rfl⟩:=h
  simp[ar] at hr
  subst hr
  exact⟨[],by simp[ak],by simp,by simp,hs,fun _=>rfl,fun _ _ h=>h⟩
 |c::cs,st,st',ds,ys,h,hs,hr=>by
  obtain⟨z,zs,rfl,hz,hzs⟩:=hr
  cases c with
  |m id=>simp[ap] at h
  |r x=>
   simp only[ap,Option.map_eq_some_iff] at h
   obtain⟨⟨ds',s'⟩,h1,h2⟩:=h
   cases h2
   obtain⟨F,e1,e2,e3,e4,e5,e6⟩:=a9 cs st s' ds' zs h1 hs hzs
   refine⟨F,?_,e2,e3,e4,e5,e6⟩
   simp only[ak]
   exact⟨z,zs,[],F,rfl,rfl,by rw[cv];exact⟨rfl,by simpa [av] using hz⟩,e1⟩
  |n k=>
   simp only[ap,Option.map_eq_some_iff] at h
   obtain⟨⟨ds',s'⟩,h1,h2⟩:=h
   cases h2
   obtain⟨F,e1,e2,e3,e4,e5,e6⟩:=a9 cs st s' ds' zs h1 hs hzs
   refine⟨F,?_,e2,e3,e4,e5,e6⟩
   simp only[av] at hz
   subst hz
   simp only[ak]
   exact⟨_,zs,[],F,rfl,rfl,r9 k,e1⟩
  |f id k lo n=>
   simp only[ap] at h
   split at h
   ·rename_i k' es hent
    split at h
    ·rename_i hc
     obtain⟨rfl,rfl,rfl⟩:=hc
     simp only[Option.map_eq_some_iff] at h
     obtain⟨⟨ds',s'⟩,h1,h2⟩:=h
     cases h2
     obtain⟨u1,u2,u3,u4,u5⟩:=hs.ents id _ hent
     obtain⟨F,e1,e2,e3,e4,e5,e6⟩:=a9 cs (st.kill id) s' ds' zs h1 (hs.kill id) hzs
     have hkill:∀i e,(st.kill id).ent i=some e→st.ent i=some e∧i≠id:=fun i e he=>by
      rw[ax] at he
      by_cases hi:i=id
      ·rw[if_pos hi] at he;cases he
      ·rw[if_neg hi] at he;exact⟨he,hi⟩
     have hdis:∀b∈fp id,b∉F:=fun b hb hF=>by
      obtain⟨⟨i,e,he,hm⟩,_⟩:=e3 b hF
      obtain⟨he',hne⟩:=hkill i e he
      exact hs.disj i e id _ he' hent hne b hm hb
     have hdr:cv w S (.o k' es) z (fp id):=by
      obtain⟨ty,xs,fps,o1,o2,o3⟩:=u3
      have:z=φ id:=rl hz o1
      subst this
      simp only[cv]
      exact⟨ty,xs,fps,o1,o2,o3⟩
     refine⟨fp id++F,?_,?_,fun b hb=>?_,e4,fun t=>by rw[e5,wP],fun i e he=>(hkill i e (e6 i e he)).1⟩
     ·simp only[ak]
      exact⟨z,zs,fp id,F,rfl,rfl,hdr,e1⟩
     ·exact List.nodup_append.2 ⟨u4,e2,fun x hx y hy hxy=>hdis x hx (hxy▸hy)⟩
     ·rcases List.mem_append.1 hb with hb|hb
      ·refine⟨⟨id,_,hent,hb⟩,fun i e he=>?_⟩
       obtain⟨he',hne⟩:=hkill i e (e6 i e he)
       exact hs.disj id _ i e hent he' (Ne.symm hne) b hb
      ·obtain⟨⟨i,e,he,hm⟩,h3⟩:=e3 b hb
       exact⟨⟨i,e,(hkill i e he).1,hm⟩,h3⟩
    ·cases h
   ·cases h
  |p id k i off=>simp[ap] at h
  |un=>simp[ap] at h
theorem SimX.free_of (h:SimX φ S fp M w0 U N st a w) {F:List Nat} (hF:∀b∈F,(∃i e,st.ent i=some e∧b∈fp i)∧∀i e,st'.ent i=some e→b∉fp i):∀b∈F,aT S fp M w0 st' w b:=fun b hb=>by
 obtain⟨⟨i,e,he,hm⟩,h2⟩:=hF b hb
 obtain⟨_,_,_,_,u5⟩:=h.ents i e he
 exact⟨(u5 b hm).1,(u5 b hm).2.1,(u5 b hm).2.2,h2⟩
def mK (cs:List C):Ent:=.foc cs.length [] cs []
theorem s0 (w:World) (ys:List Value) (ty:Nat):(w.alloc (.cells ys.toArray ty)).ownsRow 0 ty ys.length (.slice (some ⟨w.heap.size,0,none⟩) 1 1) 1 ys:=
 ⟨by simp,.inr ⟨w.heap.size,1,ys.toArray,rfl,Nat.zero_le _,heap_alloc_new w _,Nat.le_refl _,by unfold maxLen;omega,by simp,by simp⟩⟩
theorem SimX.fresh (h:SimX φ S fp M w0 U N st a w) {id:Nat} (hid:¬U id):st.ent id=none:=by
 cases he:st.ent id with
 |none=>rfl
 |some e=>exact absurd (h.ents id e he).1 hid
theorem SimX.keepφ {id:Nat} (hid:¬U id) (hd:Value):∀i,U i→Vs.upd φ id hd i=φ i:=fun _ hi=>bV _ _ (fun e=>hid (e▸hi))
theorem t7 (h:SimX φ S fp M w0 U N st a w) {id:Nat} (hid:¬U id) {cs:List C} {ys:List Value} (hr:ar w S φ cs ys) (hu:Cs.inU U cs) (ty:Nat):
 SimX (Vs.upd φ id (.slice (some ⟨w.heap.size,0,none⟩) 1 1)) S (Vs.upd fp id [w.heap.size]) M w0 (fun i=>U i∨i=id) N (st.set id (mK cs)) a (w.alloc (.cells ys.toArray ty)):=by
 have hl:=aC _ _ hr
 have hold:∀b,b<w.heap.size→(w.alloc (.cells ys.toArray ty)).heap[b]?=w.heap[b]?:=fun b hb=>heap_alloc_old w _ hb
 refine h.put_ent (SimX.keepφ hid _) (h.fresh hid) rfl rfl rfl (by simp) (fun b hb _=>hold b hb) (fun _ hb=>hb) (fun b hb=>.inl hb) hu ?_ (by simp) (fun b hb=>?_)
 ·refine⟨ty,[],ys,[],[],[],?_,by simp[an],⟨rfl,cB (U:=U) (fun _ hb=>hb) (fun b hb=>hold b (h.sLt b hb)) (SimX.keepφ hid _) cs ys hu hr⟩,by simp[an],by simp[Value.ownBlock]⟩
  simpa [hl] using s0 w ys ty
 ·simp at hb
  subst hb
  exact⟨fun hb=>by have:=h.sLt _ hb;omega,.inr ⟨Nat.le_refl _,by simp⟩⟩
theorem gX {nid:Nat}:∀i,(U i∨i=nid)→iy U nid i:=fun _ hi=>hi.imp id (fun e=>by subst e;exact⟨Nat.le_refl _,by omega⟩)
theorem ux (id k:Nat) (w1:World):vRep w1 S (Vs.upd φ id (.slice (some ⟨w.heap.size,0,none⟩) 1 1)) (.c (.p id k 0 0)) (.pointer (some ⟨w.heap.size,0,none⟩)):=by
 simp only[vRep,av,cu]
 exact⟨w.heap.size,1,1,rfl,by simp⟩
def i6 (P:Program) (t:TypeId):Option (List Value):=((P.info? t).bind (·.zero)).map (·.cells.toList)
theorem sk {o:Oper} {t:TypeId} {zs:List Value} {cs:List C} {nid:Nat} (ho:o.op=.alloc t) (hz:i6 P t=some zs) (hc:il zs cs=true) (h:SimX φ S fp M w0 U N st a w) (hn:¬U nid):
 Out P o M w0 U N nid (st.set nid (mK cs)) (.c (.p nid cs.length 0 0)) a w:=by
 obtain⟨hr,hu⟩:=fQ (w:=w) (S:=S) (φ:=φ) (U:=U) _ _ hc
 have hs:=t7 h hn hr hu t
 refine⟨_,_,_,S,_,.inl ?_,hs.mono gX,?_,ux nid cs.length _⟩
 ·unfold i6 at hz
  cases hi:P.info? t with
  |none=>simp[hi] at hz
  |some i=>
   cases hzz:i.zero with
   |none=>simp[hi,hzz] at hz
   |some z=>
    simp[hi,hzz] at hz
    subst hz
    simp only[execOp,ho]
    simp[Instr.alloc,zeroValue,typeInfo,hi,hzz,newVar,newRow]
 ·simp only[V.inU,C.inU]
  exact .inr ⟨Nat.le_refl _,by omega⟩
theorem vV {o:Oper} {t:TypeId} {x:Operand} {ox:O} {cs:List C} {nid:Nat} (ho:o.op=.box t x) (hx:aI x ox=true) (hc:cD (st.ev ox)=some cs) (hs:Cs.solid cs=true) (h:SimX φ S fp M w0 U N st a w) (hn:¬U nid):
 Out P o M w0 U N nid (st.set nid (mK cs)) (.c (.p nid cs.length 0 0)) a w:=by
 obtain⟨hv,hu⟩:=h.ev hx
 have hr:=gq hc hs hv
 have hcu:=kp hc hu
 have hs':=t7 h hn hr hcu t
 refine⟨_,_,_,S,_,.inl ?_,hs'.mono gX,?_,ux nid cs.length _⟩
 ·simp only[execOp,ho]
  simp[Instr.box,newVar,newRow]
 ·simp only[V.inU,C.inU]
  exact .inr ⟨Nat.le_refl _,by omega⟩
def aZ {α:Type} (l:List α) (off:Nat) (xs:List α):List α:=l.take off++(xs++l.drop (off+xs.length))
def jY (k:Nat) (pv xv:V) (st:St):Option St:=
 match pv,cD xv with
 |.c (.p id kk i off),some xs=>
  if xs.length=k∧Cs.solid xs=true then
   match st.ent id with
   |some (.foc k0 pr cs po)=>if k0=kk∧i=pr.length∧off+k≤cs.length then some (st.set id (.foc k0 pr (aZ cs off xs) po)) else none
   |some (.opn k0 es i0 cs)=>if k0=kk∧i=i0∧off+k≤cs.length then some (st.set id (.opn k0 es i0 (aZ cs off xs))) else none
   |some (.arr k0 es)=>match ap st xs with
    |some (ds,st1)=>match st1.ent id,es[i]? with
     |some _,some e=>if k0=kk∧off+k≤e.length then some (st1.set id (.arr k0 (es.set i (aZ e off ds)))) else none
     |_,_=>none
    |none=>none
   |_=>none
  else none
 |_,_=>none
theorem rD {α:Type} (l vs:List α) (o m:Nat) (h:o+vs.length≤(l.take m).length) (hm:(l.take m).length≤l.length):
 (l.take o++vs++l.drop (o+vs.length)).take (l.take m).length=aZ (l.take m) o vs:=by
 have hl:(l.take m).length=min m l.length:=List.length_take
 have e0:l.take m=l.take (l.take m).length:=by rw[hl,List.take_eq_take_iff];omega
 generalize hn:(l.take m).length=n at*
 rw[e0]
 unfold aZ
 have e1:(l.take o).length=o:=by rw[List.length_take];omega
 rw[List.append_assoc,List.take_append,List.take_append,List.take_take,List.take_take,List.drop_take,e1,List.take_of_length_le (by omega:vs.length≤n-o),Nat.min_comm n o,Nat.sub_sub]
theorem ip {ty k n:Nat} {hd:Value} {xs vs:List Value} (ho:w.ownsRow 0 ty k hd n xs) {b N' cap:Nat} (hh:Hd hd b N' cap) {o:Nat} (hle:o+vs.length≤xs.length) (h1:∀v∈vs,v.oneCell'=true):
 ∃w',(storeCells ⟨b,o,none⟩ vs).run P w=.ok () w'∧w'.ownsRow 0 ty k hd n (aZ xs o vs)∧w'.os=w.os∧w'.tape=w.tape∧w'.output=w.output∧w'.heap.size=w.heap.size∧∀j,j≠b→w'.heap[j]?=w.heap[j]?:=by
 rcases ho.2 with⟨hn,_⟩|⟨g,c,cur,hv,_,hg,hnc,hcm,hcs,htake⟩
 ·rw[hh] at hn;cases hn
 ·rw[hh] at hv
  cases hv
  have hxl:xs.length≤cur.size:=by rw[←htake,List.length_take];simp;omega
  have hrun:=run_storeCells_at (P:=P) b o ty vs 0 cur w hg (by omega) h1
  refine⟨_,hrun,⟨?_,.inr ⟨b,cap,_,hh,Nat.zero_le _,setRow_heap w b cur _ ty (0,0) hg,hnc,hcm,?_,?_⟩⟩,rfl,rfl,rfl,by simp,fun j hj=>setRow_other w b j _ hj⟩
  ·rw[←ho.1]
   simp only[aZ,List.length_append,List.length_take,List.length_drop]
   omega
  ·simp only[List.size_toArray,List.length_append,List.length_take,List.length_drop,Array.length_toList]
   omega
  ·simp only[Nat.add_zero]
   subst htake
   have e:=rD cur.toList vs o (n*k) hle (by simp;omega)
   rwa [ho.1] at e
theorem gC:∀(as bs:List D) (xs ys:List Value) (F G:List Nat),ak w S as xs F→ak w S bs ys G→ak w S (as++bs) (xs++ys) (F++G)
 |[],bs,xs,ys,F,G,h1,h2=>by simp[ak] at h1;simpa [h1.1,h1.2] using h2
 |a0::as,bs,xs,ys,F,G,h1,h2=>by
  simp only[ak] at h1
  obtain⟨y,ys',f1,f2,rfl,rfl,h3,h4⟩:=h1
  simp only[List.cons_append,ak]
  exact⟨y,ys'++ys,f1,f2++G,rfl,by simp,h3,gC as bs ys' ys f2 G h4 h2⟩
theorem hC:∀(as bs:List D) (xs:List Value) (F:List Nat),ak w S (as++bs) xs F→∃x1 x2 F1 F2,xs=x1++x2∧F=F1++F2∧ak w S as x1 F1∧ak w S bs x2 F2
 |[],bs,xs,F,h=>⟨[],xs,[],F,rfl,rfl,by simp[ak],h⟩
 |a0::as,bs,xs,F,h=>by
  simp only[List.cons_append,ak] at h
  obtain⟨y,ys,f1,f2,rfl,rfl,h3,h4⟩:=h
  obtain⟨x1,x2,F1,F2,rfl,rfl,h5,h6⟩:=hC as bs ys f2 h4
  refine⟨y::x1,x2,f1++F1,F2,by simp,by simp,?_,h6⟩
  simp only[ak]
  exact⟨y,x1,f1,F1,rfl,rfl,h3,h5⟩
theorem cg {k:Nat}:∀(as bs:List (List D)) (xs:List Value) (F:List Nat),an w S k (as++bs) xs F→∃x1 x2 F1 F2,xs=x1++x2∧F=F1++F2∧an w S k as x1 F1∧an w S k bs x2 F2
 |[],bs,xs,F,h=>⟨[],xs,[],F,rfl,rfl,by simp[an],h⟩
 |a0::as,bs,xs,F,h=>by
  simp only[List.cons_append,an] at h
  obtain⟨x,y,f1,f2,rfl,rfl,h3,h4⟩:=h
  obtain⟨x1,x2,F1,F2,rfl,rfl,h5,h6⟩:=cg as bs y f2 h4
  refine⟨x++x1,x2,f1++F1,F2,by simp,by simp,?_,h6⟩
  simp only[an]
  exact⟨x,x1,f1,F1,rfl,rfl,h3,h5⟩
theorem en {k:Nat}:∀(as bs:List (List D)) (xs ys:List Value) (F G:List Nat),an w S k as xs F→an w S k bs ys G→an w S k (as++bs) (xs++ys) (F++G)
 |[],bs,xs,ys,F,G,h1,h2=>by simp[an] at h1;simpa [h1.1,h1.2] using h2
 |a0::as,bs,xs,ys,F,G,h1,h2=>by
  simp only[an] at h1
  obtain⟨x,y,f1,f2,rfl,rfl,h3,h4⟩:=h1
  simp only[List.cons_append,an]
  exact⟨x,y++ys,f1,f2++G,by simp,by simp,h3,en as bs y ys f2 G h4 h2⟩
end
end Go.Vs
namespace Go.Vs
open Go.RowKit
section
variable {φ:Nat→Value} {S:Nat→Prop} {fp:Nat→List Nat} {M:MS} {w0:World} {U:Nat→Prop} {N:Nat} {st st':St} {a:Act} {w w':World} {P:Program}
theorem SimX.congr (h:SimX φ S fp M w0 U N st a w) (hg:∀t,st'.get t=st.get t) (he:∀i,st'.ent i=st.ent i):SimX φ S fp M w0 U N st' a w:=
 {h with
  ents:=fun id e hh=>h.ents id e (by rw[←he];exact hh)
  disj:=fun id e id' e' h1 h2=>h.disj id e id' e' (by rw[←he];exact h1) (by rw[←he];exact h2)
  slots:=fun t=>by rw[hg];exact h.slots t}
theorem gV {α:Type} (f:Nat→α) (i:Nat):Vs.upd f i (f i)=f:=by
 funext j
 unfold Vs.upd
 split
 ·rename_i h;rw[h]
 ·rfl
theorem SimX.rewrite (h:SimX φ S fp M w0 U N st a w) {id:Nat} {e e':Ent} (he:st.ent id=some e) {F:List Nat} (ho:w'.os=w.os) (ht:w'.tape=w.tape) (hp:w'.output=w.output) (hs:w.heap.size=w'.heap.size)
 (hk:∀b,(φ id).ownBlock≠some b→w'.heap[b]?=w.heap[b]?) (hb0:∀b,(φ id).ownBlock=some b→b∈fp id) (heU:e'.inU U)
 (hent:entRep w' S φ (φ id) e' F) (hF:F.Nodup) (hF2:∀b∈F,b∈fp id∨aT S fp M w0 st w b):
 ∃fp',SimX φ S fp' M w0 U N (st.set id e') a w':=by
 obtain⟨u1,u2,u3,u4,u5⟩:=h.ents id e he
 have hfree:∀b∈fp id,aT S fp M w0 (st.kill id) w b:=fun b hb=>⟨(u5 b hb).1,(u5 b hb).2.1,(u5 b hb).2.2,fun i e1 h1=>by
  rw[ax] at h1
  by_cases hi:i=id
  ·rw[if_pos hi] at h1;cases h1
  ·rw[if_neg hi] at h1;exact h.disj id e i e1 he h1 (Ne.symm hi) b hb⟩
 have:=(h.kill id).put_ent (w':=w') (id:=id) (e:=e') (hd:=φ id) (F:=F) (S':=S) (fun i _=>by rw[gV]) (by simp[ax]) ho ht hp (Nat.le_of_eq hs)
  (fun b _ hnf=>hk b (fun hbb=>hnf (hfree b (hb0 b hbb)))) (fun _ hb=>hb) (fun b hb=>.inl hb) heU (by rw[gV];exact hent) hF (fun b hb=>by
   have hfr:aT S fp M w0 (st.kill id) w b:=by
    rcases hF2 b hb with hb|hb
    ·exact hfree b hb
    ·exact⟨hb.1,hb.2.1,hb.2.2.1,fun i e1 h1=>by
      rw[ax] at h1
      by_cases hi:i=id
      ·rw[if_pos hi] at h1;cases h1
      ·rw[if_neg hi] at h1;exact hb.2.2.2 i e1 h1⟩
   exact⟨hfr.2.2.1,.inl hfr⟩)
 rw[gV] at this
 exact⟨_,(this.mono (U':=U) (fun i hi=>hi.elim (fun x=>x) (fun e=>e▸u1))).congr (fun _=>rfl) (fun i=>by
  rw[bq,bq,ax]
  split<;>rfl)⟩
theorem rL {t:TypeId} {k:Nat} (hk:szT P t=some k) {b o:Nat} {y:Value} {ys:List Value} (hy:y.cells.toList=ys) (hl:ys.length=k) (hr:(storeCells ⟨b,o,none⟩ ys).run P w=.ok () w'):
 (Instr.storeAt t (.pointer (some ⟨b,o,none⟩)) y).run P w=.ok () w':=by
 have hsz:y.cells.size=k:=by rw[←Array.length_toList,hy,hl]
 simp[Instr.storeAt,Instr.sureAddr,storeVar,dp hk,hsz,hy,hr]
theorem kw:∀(cs ds:List C) (ys zs:List Value) (off:Nat),ar w S φ cs ys→ar w S φ ds zs→ar w S φ (aZ cs off ds) (aZ ys off zs):=by
 intro cs ds ys zs off h1 h2
 have app:∀(as bs:List C) (xs ys:List Value),ar w S φ as xs→ar w S φ bs ys→ar w S φ (as++bs) (xs++ys):=by
  intro as
  induction as with
  |nil=>intro bs xs ys h1 h2;simp[ar] at h1;subst h1;simpa using h2
  |cons c as ih=>
   intro bs xs ys h1 h2
   obtain⟨z,zs,rfl,h3,h4⟩:=h1
   exact⟨z,zs++ys,rfl,h3,ih bs zs ys h4 h2⟩
 have hl:=aC _ _ h2
 unfold aZ
 rw[hl]
 exact app _ _ _ _ (hP _ _ _ h1) (app _ _ _ _ h2 (gY _ _ _ h1))
theorem nn {α:Type} (x1 ys x2 vs:List α) (off:Nat) (h:off+vs.length≤ys.length):aZ (x1++(ys++x2)) (x1.length+off) vs=x1++(aZ ys off vs++x2):=by
 unfold aZ
 rw[List.take_append,List.take_of_length_le (by omega:x1.length≤x1.length+off),Nat.add_sub_cancel_left,List.take_append,List.drop_append,List.drop_of_length_le (by omega:x1.length≤x1.length+off+vs.length),List.drop_append]
 simp only[List.nil_append,List.append_assoc]
 rw[show off-ys.length=0 from by omega,show x1.length+off+vs.length-x1.length=off+vs.length from by omega,show off+vs.length-ys.length=0 from by omega]
 simp
theorem g6 {U:Nat→Prop} {cs ds:List C} {off:Nat} (h1:Cs.inU U cs) (h2:Cs.inU U ds):Cs.inU U (aZ cs off ds):=by
 refine Cs.inU_of fun c hc=>?_
 unfold aZ at hc
 rcases List.mem_append.1 hc with hc|hc
 ·exact Cs.inU_get h1 c (List.mem_of_mem_take hc)
 ·rcases List.mem_append.1 hc with hc|hc
  ·exact Cs.inU_get h2 c hc
  ·exact Cs.inU_get h1 c (List.mem_of_mem_drop hc)
theorem gD {α:Type} (l vs:List α) (off:Nat) (h:off+vs.length≤l.length):(aZ l off vs).length=l.length:=by
 unfold aZ
 simp[List.length_append,List.length_take,List.length_drop]
 omega
theorem bf {h:Value} {b N' cap:Nat} (hh:Hd h b N' cap):h.ownBlock=some b:=by rw[hh];rfl
theorem sE (ob F1 fa fb fc F3 F:List Nat) (u:(ob++(F1++((fa++fb++fc)++F3))).Nodup) (hF:F.Nodup) (hd:∀b∈F,b∉ob++(F1++((fa++fb++fc)++F3))):(ob++(F1++((fa++(F++fc))++F3))).Nodup:=by
 simp only[List.nodup_append,List.mem_append] at*
 grind
theorem zX {h:Value} {F:List Nat} {kk:Nat} {pr po:List (List D)} {cs xs:List C} {ys:List Value} (u3:qF w S φ h kk pr cs po F) (u4:F.Nodup) (u5:∀b∈F,¬S b) {b N' cap:Nat} (hh:Hd h b N' cap) {off:Nat} (hoff:off+ys.length≤cs.length) (hone:∀v∈ys,v.oneCell'=true) (hcu:Cs.inU U xs) (hcr:ar w S φ xs ys):
 ∃w',(storeCells ⟨b,pr.length*kk+off,none⟩ ys).run P w=.ok () w'∧w'.os=w.os∧w'.tape=w.tape∧w'.output=w.output∧w'.heap.size=w.heap.size∧(∀j,j≠b→w'.heap[j]?=w.heap[j]?)∧(Cs.inU U cs→qF w' S φ h kk pr (aZ cs off xs) po F):=by
 obtain⟨ty,x1,zs,x2,f1,f2,o1,o2,o3,o4,o5⟩:=u3
 have hzl:=aC _ _ o3.2
 have hxl:=aC _ _ hcr
 have hx1:=bn _ _ _ o2
 obtain⟨w',r1,r2,r3,r4,r5,r6,r7⟩:=ip (P:=P) (vs:=ys) o1 hh (o:=pr.length*kk+off) (by simp only[List.length_append];omega) hone
 refine⟨w',r1,r3,r4,r5,r6,r7,fun u2=>?_⟩
 have hkeep:∀b',S b'→w'.heap[b']?=w.heap[b']?:=fun b' hb'=>r7 b' (fun e=>u5 b (by rw[o5];exact ba (bf hh)) (e▸hb'))
 have hne:∀b'∈f1++f2,w'.heap[b']?=w.heap[b']?:=fun b' hb'=>r7 b' (fun e=>by
  rw[o5,bf hh] at u4
  simp only[Option.toList,List.singleton_append,List.nodup_cons] at u4
  exact u4.1 (e▸hb'))
 rw[←hx1,nn _ _ _ _ _ (by omega)] at r2
 refine⟨ty,x1,aZ zs off ys,x2,f1,f2,r2,bI (fun _ hb=>hb) hkeep _ _ _ _ (fun b' hb'=>hne b' (by simp[hb'])) o2,⟨?_,?_⟩,bI (fun _ hb=>hb) hkeep _ _ _ _ (fun b' hb'=>hne b' (by simp[hb'])) o4,o5⟩
 ·rw[gD _ _ _ (by omega)];exact o3.1
 ·exact cB (U:=U) (fun _ hb=>hb) hkeep (fun _ _=>rfl) _ _ (g6 u2 hcu) (kw _ _ _ _ _ o3.2 hcr)
theorem wC {o:Oper} {t:TypeId} {p x:Operand} {op ox:O} {k nid:Nat} (ho:o.op=.store t p x) (hp:aI p op=true) (hx:aI x ox=true) (hk:szT P t=some k)
 (h:SimX φ S fp M w0 U N st a w) (he:jY k (st.ev op) (st.ev ox) st=some st'):Out P o M w0 U N nid st' (.c .un) a w:=by
 obtain⟨hv,hu⟩:=h.ev hp
 obtain⟨hvx,hux⟩:=h.ev hx
 unfold jY at he
 split at he
 ·rename_i id kk i off xs e1 e2
  rw[e1] at hv hu
  simp only[vRep,av] at hv
  obtain⟨b,N',cap,hh,hpv⟩:=hv
  split at he
  ·rename_i hc
   obtain⟨hxl,hsol⟩:=hc
   have hcr:=gq e2 hsol hvx
   have hcu:=kp e2 hux
   have hone:=nA hsol hcr
   have hyl:=aC _ _ hcr
   generalize hys:(a.eval x).cells.toList=ys at*
   have fin:∀w',(storeCells ⟨b,i*kk+off,none⟩ ys).run P w=.ok () w'→(∃fp',SimX φ S fp' M w0 U N st' a w')→Out P o M w0 U N nid st' (.c .un) a w:=by
    intro w' hrun ⟨fp',hsim⟩
    refine⟨undef,w',φ,S,fp',.inr ⟨?_,rfl⟩,hsim.mono (fun _=>.inl),by simp[V.inU,C.inU],by simp[vRep,av]⟩
    simp only[execOp,ho,hpv]
    rw[Sem.run_bind,rL hk hys (by omega) hrun]
    rfl
   split at he
   ·rename_i k0 pr cs po hent
    split at he
    ·rename_i hc2
     obtain⟨rfl,rfl,hoff⟩:=hc2
     cases he
     obtain⟨u1,u2,u3,u4,u5⟩:=h.ents id _ hent
     obtain⟨w',r1,r2,r3,r4,r5,r6,r7⟩:=zX (P:=P) (off:=off) u3 u4 (fun b hb=>(u5 b hb).2.2) hh (by omega) hone hcu hcr
     exact fin w' r1 (h.rewrite hent r2 r3 r4 r5.symm (fun b' hb'=>r6 b' (fun e=>hb' (by rw[e];exact bf hh))) (fun b' hb'=>by obtain⟨_,_,_,_,_,_,_,_,_,_,o5⟩:=u3;rw[o5];exact ba hb') (g6 u2 hcu) (r7 u2) u4 (fun b' hb'=>.inl hb'))
    ·cases he
   ·rename_i k0 es i0 cs hent
    split at he
    ·rename_i hc2
     obtain⟨rfl,rfl,hoff⟩:=hc2
     cases he
     obtain⟨u1,u2,u3,u4,u5⟩:=h.ents id _ hent
     obtain⟨hi,u3⟩:=u3
     obtain⟨w',r1,r2,r3,r4,r5,r6,r7⟩:=zX (P:=P) (off:=off) u3 u4 (fun b hb=>(u5 b hb).2.2) hh (by omega) hone hcu hcr
     rw[List.length_take,Nat.min_eq_left (Nat.le_of_lt hi)] at r1
     exact fin w' r1 (h.rewrite hent r2 r3 r4 r5.symm (fun b' hb'=>r6 b' (fun e=>hb' (by rw[e];exact bf hh))) (fun b' hb'=>by obtain⟨_,_,_,_,_,_,_,_,_,_,o5⟩:=u3;rw[o5];exact ba hb') (g6 u2 hcu) ⟨hi,r7 u2⟩ u4 (fun b' hb'=>.inl hb'))
    ·cases he
   ·rename_i k0 es hent
    split at he
    ·rename_i ds st1 habs
     split at he
     ·rename_i e0 e hent1 hes
      split at he
      ·rename_i hc2
       obtain⟨rfl,hoff⟩:=hc2
       cases he
       obtain⟨F,a1,a2,a3,a4,a5,a6⟩:=a9 _ _ _ _ _ habs h hcr
       have hsame:e0=.arr k0 es:=by
        have:=a6 id e0 hent1
        rw[hent] at this
        exact(Option.some.inj this).symm
       subst hsame
       obtain⟨u1,u2,u3,u4,u5⟩:=a4.ents id _ hent1
       obtain⟨ty,xs',fps,o1,o2,o5⟩:=u3
       have hilt:i<es.length:=(List.getElem?_eq_some_iff.1 hes).1
       have hsplit:es=es.take i++(e::es.drop (i+1)):=by
        have:=(List.getElem?_eq_some_iff.1 hes).2
        rw[←this,List.getElem_cons_drop,List.take_append_drop]
       rw[hsplit] at o2
       obtain⟨x1,x2,F1,F2,rfl,rfl,g1,g2⟩:=cg _ _ _ _ o2
       simp only[an] at g2
       obtain⟨xe,x3,fe,F3,rfl,rfl,g3,g4⟩:=g2
       have hx1:=bn _ _ _ g1
       have hxe:=aG _ _ _ g3.2
       have hdl:=aG _ _ _ a1
       have hx1':x1.length=i*k0:=by rw[hx1,List.length_take];congr 1;omega
       obtain⟨w',r1,r2,r3,r4,r5,r6,r7⟩:=ip (P:=P) (vs:=ys) o1 hh (o:=i*k0+off) (by simp only[List.length_append];omega) hone
       have e3:e=e.take off++(e.drop off).take ds.length++e.drop (off+ds.length):=by
        rw[List.append_assoc,←List.drop_drop,List.take_append_drop,List.take_append_drop]
       have g3':=g3.2
       rw[e3] at g3'
       obtain⟨xab,xc,fab,fc,q1,q2,q3,q4⟩:=hC _ _ _ _ g3'
       obtain⟨xa,xb,fa,fb,q5,q6,q7,q8⟩:=hC _ _ _ _ q3
       have la:=aG _ _ _ q7
       have lb:=aG _ _ _ q8
       rw[List.length_take] at la
       rw[List.length_take,List.length_drop] at lb
       have hxsp:aZ xe off ys=xa++(ys++xc):=by
        unfold aZ
        rw[q1,q5]
        have:xa.length=off:=by omega
        rw[List.append_assoc,List.take_append,←this,List.take_length,Nat.sub_self,List.take_zero,List.append_nil,←List.append_assoc xa xb xc,List.drop_append,List.drop_of_length_le (by simp;omega),List.nil_append]
        rw[show xa.length+ys.length-(xa++xb).length=0 from by simp;omega]
        rfl
       have hdsp:aZ e off ds=e.take off++(ds++e.drop (off+ds.length)):=rfl
       rw[←hx1',nn _ _ _ _ _ (by omega),hxsp] at r2
       have hkeep:∀b',S b'→w'.heap[b']?=w.heap[b']?:=fun b' hb'=>r7 b' (fun e=>(u5 b (by rw[o5];exact ba (bf hh))).2.2 (e▸hb'))
       have hbn:b∉F1++(fe++F3):=by
        have:=u4
        rw[o5,bf hh] at this
        simp only[Option.toList,List.singleton_append,List.nodup_cons] at this
        exact this.1
       have hbF:b∉F:=fun hbF=>(a3 b hbF).2 id _ hent1 (by rw[o5];exact ba (bf hh))
       have hk1:∀b'∈F1,w'.heap[b']?=w.heap[b']?:=fun b' hb'=>r7 b' (fun e=>hbn (by rw[←e];simp[hb']))
       have hk3:∀b'∈F3,w'.heap[b']?=w.heap[b']?:=fun b' hb'=>r7 b' (fun e=>hbn (by rw[←e];simp[hb']))
       have hkab:∀b'∈fa,w'.heap[b']?=w.heap[b']?:=fun b' hb'=>r7 b' (fun e=>hbn (by rw[←e,q2,q6];simp[hb']))
       have hkc:∀b'∈fc,w'.heap[b']?=w.heap[b']?:=fun b' hb'=>r7 b' (fun e=>hbn (by rw[←e,q2];simp[hb']))
       have hkF:∀b'∈F,w'.heap[b']?=w.heap[b']?:=fun b' hb'=>r7 b' (fun e=>hbF (by rw[←e];exact hb'))
       have hFdis:∀b'∈F,b'∉(φ id).ownBlock.toList++(F1++(fe++F3)):=fun b' hb' hm=>(a3 b' hb').2 id _ hent1 (by rw[o5];exact hm)
       refine fin w' r1 (a4.rewrite hent1 r3 r4 r5 r6.symm (fun b' hb'=>r7 b' (fun e=>hb' (by rw[e];exact bf hh))) (fun b' hb'=>by rw[o5];exact ba hb') trivial
        (F:=(φ id).ownBlock.toList++(F1++((fa++(F++fc))++F3))) ?_ ?_ (fun b' hb'=>?_))
       ·refine⟨ty,_,F1++((fa++(F++fc))++F3),by rw[List.length_set];exact r2,?_,rfl⟩
        have hset:es.set i (aZ e off ds)=es.take i++(aZ e off ds::es.drop (i+1)):=by
         rw[List.set_eq_take_append_cons_drop,if_pos hilt]
        rw[hset]
        refine en _ _ _ _ _ _ (bI (fun _ hb=>hb) hkeep _ _ _ _ hk1 g1) ?_
        simp only[an]
        refine⟨xa++(ys++xc),x3,fa++(F++fc),F3,rfl,rfl,⟨?_,?_⟩,bI (fun _ hb=>hb) hkeep _ _ _ _ hk3 g4⟩
        ·rw[gD _ _ _ (by omega)];exact g3.1
        ·rw[hdsp]
         exact gC _ _ _ _ _ _ (bN (fun _ hb=>hb) hkeep _ _ _ hkab q7) (gC _ _ _ _ _ _ (bN (fun _ hb=>hb) hkeep _ _ _ hkF a1) (bN (fun _ hb=>hb) hkeep _ _ _ hkc q4))
       ·rw[o5,q2,q6] at u4
        rw[q2,q6] at hFdis
        exact sE _ _ _ _ _ _ _ u4 a2 hFdis
       ·rw[o5,q2,q6]
        simp only[List.mem_append] at hb' ⊢
        rcases hb' with hb'|hb'|(hb'|hb'|hb')|hb'
        ·simp[hb']
        ·simp[hb']
        ·simp[hb']
        ·exact .inr (h.free_of a3 b' hb')
        ·simp[hb']
        ·simp[hb']
      ·cases he
     ·cases he
    ·cases he
   ·cases he
  ·cases he
 ·cases he
end
end Go.Vs
namespace Go.Vs
open Go.RowKit
section
variable {φ:Nat→Value} {S:Nat→Prop} {fp:Nat→List Nat} {M:MS} {w0:World} {U:Nat→Prop} {N:Nat} {st st':St} {a:Act} {w w':World} {P:Program}
def pA (P:Program) (w:World) (size:Nat) (sv:Value) (m:Nat) (news:List Value):Prop:=
 (Builtin.lenOf sv).run P w=.ok m w∧(Builtin.firstCells size m sv).run P w=.ok news.toArray w∧(Builtin.firstCells size m sv).run P w.drew=.ok news.toArray w.drew∧news.length=m*size
theorem oR (size c:Nat):pA P w size (.slice none 0 c) 0 []:=⟨rfl,by simp[Builtin.firstCells],by simp[Builtin.firstCells],by simp⟩
theorem kj {size m c:Nat} {ad:Addr} {news:List Value} (hl:news.length=m*size) (hc:∀j u,news[j]?=some u→w.cell? (ad.add j)=some u):pA P w size (.slice (some ad) m c) m news:=
 ⟨rfl,run_firstCells_some w size m ad m c news hl hc,run_firstCells_some w.drew size m ad m c news hl (by simpa using hc),hl⟩
theorem nL {size c:Nat} {ad:Option Addr}:pA P w size (.slice ad 0 c) 0 []:=by
 cases ad with
 |none=>exact oR size c
 |some ad=>exact kj (by simp) (by simp)
theorem iN (t ty e:TypeId) (i:TypeInfo) (z:Value) (size bytes ty0:Nat) (ht:P.underlying t=some (.slice e)) (hi:P.info? e=some i) (hz:i.zero=some z)
 (hsize:i.size=size) (hby:i.bytes=bytes) (hzs:z.cells.size=size)
 (v:Value) (n:Nat) (xs:List Value) (hown:w.ownsRow 0 ty0 size v n xs)
 (sv:Value) (m:Nat) (news:List Value) (hsrc:pA P w size sv m news) (h1:∀u∈news,u.oneCell'=true)
 (h63:n+m≤maxLen) (hbytes:(n+m)*bytes≤140737488355328):
 ∃v' w' ty1,(Builtin.append_ #[t,t] ty #[v,sv]).run P w=.ok v' w'∧w'.ownsRow 0 ty1 size v' (n+m) (xs++news)∧w.grownBy w' v.ownBlock∧(v'.ownBlock=v.ownBlock∨v'.ownBlock=some w.heap.size∧w.heap.size<w'.heap.size):=by
 subst hsize
 subst hby
 obtain⟨s1,s2,s3,hl⟩:=hsrc
 have hsmall:n+m≤9223372036854775807:=by simp only[maxLen] at h63;omega
 have hlen:(xs++news).length=(n+m)*i.size:=by rw[List.length_append,hown.1,hl,Nat.add_mul]
 have grown:∀(old:Nat) (row:Option Nat),
  (w.drew.alloc (.cells (xs.toArray++news.toArray++Builtin.zeroCells z.cells (grownCap w (n+m) old e-(n+m))) e)).ownsRow 0 e i.size
   (.slice (some ⟨w.heap.size,0,none⟩) (n+m) (grownCap w (n+m) old e)) (n+m) (xs++news)∧
  w.grownBy (w.drew.alloc (.cells (xs.toArray++news.toArray++Builtin.zeroCells z.cells (grownCap w (n+m) old e-(n+m))) e)) row:=by
  intro old row
  have hge:=grownCap_ge w (n+m) old e
  have hcm:grownCap w (n+m) old e≤maxLen:=grownCap_le_maxLen w (n+m) old e h63
  refine⟨⟨hlen,.inr ⟨w.heap.size,_,_,rfl,Nat.zero_le _,heap_alloc_new w.drew _,hge,hcm,?_,?_⟩⟩,⟨rfl,rfl,rfl,by simp,fun k hk _=>heap_alloc_old w.drew _ hk⟩⟩
  ·simp only[Array.size_append,List.size_toArray,size_zeroCells,hzs,hown.1,hl,←Nat.add_mul]
   congr 1
   omega
  ·simp only[Array.toList_append,List.append_assoc]
   rw[←List.append_assoc,←hlen]
   exact List.take_left
 have grow_run:∀(base:Option Addr) (cap:Nat),v=.slice base n cap→(Builtin.firstCells i.size n v).run P w.drew=.ok xs.toArray w.drew→cap<n+m→
  (Builtin.append_ #[t,t] ty #[v,sv]).run P w=.ok (.slice (some ⟨w.heap.size,0,none⟩) (n+m) (grownCap w (n+m) cap e))
   (w.drew.alloc (.cells (xs.toArray++news.toArray++Builtin.zeroCells z.cells (grownCap w (n+m) cap e-(n+m))) e)):=by
  intro base cap hv hfo hlt
  subst hv
  have hn:¬(n+m≤cap):=by omega
  have h63':¬(9223372036854775807<((n:Int)+(m:Int))):=by omega
  have hfit:Builtin.nextslicecap (n+m) cap*i.bytes≤281474976710656:=growslice_fits (by omega) hbytes
  have h48':¬(281474976710656<Builtin.nextslicecap (n+m) cap*i.bytes):=by omega
  simp[Builtin.append_,run_underlying ht,sizeOf,typeInfo,zeroValue,hi,hz,s1,hn,h63',h48',Question.forced,s3,hfo,newRow,grownCap]
  congr 2
  apply Array.ext'
  simp[List.append_assoc]
 rcases hown.2 with⟨rfl,rfl⟩|⟨g,cap,cur,rfl,_,hg,hnc,hcm,hcs,htake⟩
 ·have hx:xs=[]:=List.eq_nil_of_length_eq_zero (by simpa using hown.1)
  subst hx
  by_cases hm:m=0
  ·subst hm
   have hn:news=[]:=List.eq_nil_of_length_eq_zero (by simpa using hl)
   subst hn
   refine⟨.slice none 0 0,w,0,?_,World.ownsRow_nil w 0 0 i.size,⟨rfl,rfl,rfl,Nat.le_refl _,fun _ _ _=>rfl⟩,.inl rfl⟩
   simp[Builtin.append_,run_underlying ht,sizeOf,typeInfo,hi,s1,s2]
  ·have hr:=grow_run none 0 rfl (by simp[Builtin.firstCells]) (by omega)
   exact⟨_,_,e,hr,(grown 0 none).1,(grown 0 _).2,.inr ⟨rfl,by simp⟩⟩
 ·by_cases hroom:n+m≤cap
  ·have hfit:n*i.size+news.length≤cur.size:=by rw[hl,hcs,←Nat.add_mul];exact Nat.mul_le_mul_right _ hroom
   have hst:=run_storeCells_at (P:=P) g (n*i.size) ty0 news 0 cur w hg (by simpa using hfit) h1
   simp only[Nat.add_zero] at hst
   refine⟨.slice (some ⟨g,0,none⟩) (n+m) cap,w.setRow g (cur.toList.take (n*i.size)++news++cur.toList.drop (n*i.size+news.length)).toArray,ty0,?_,⟨hlen,.inr ⟨g,cap,_,rfl,Nat.zero_le _,setRow_heap w g cur _ ty0 _ hg,hroom,hcm,?_,?_⟩⟩,⟨rfl,rfl,rfl,by simp,fun k _ hk=>setRow_other w g k _ (fun e=>hk (by simp[Value.ownBlock,e]))⟩,.inl rfl⟩
   ·simp[Builtin.append_,run_underlying ht,sizeOf,typeInfo,hi,s1,hroom,s2,Addr.add_lit,hst]
   ·simp only[List.size_toArray,List.length_append,List.length_take,List.length_drop,Array.length_toList]
    omega
   ·rw[htake,←hlen]
    exact List.take_left
  ·have holds:∀j u,xs[j]?=some u→w.drew.cell? ((⟨g,0,none⟩:Addr).add j)=some u:=by simpa using hown.cells (g:=g) rfl
   have hr:=grow_run (some ⟨g,0,none⟩) cap rfl (run_firstCells_some w.drew i.size n _ n cap xs hown.1 holds) (by omega)
   exact⟨_,_,e,hr,(grown cap none).1,(grown cap _).2,.inr ⟨rfl,by simp⟩⟩
def nO:List D→Bool
 |[]=>true
 |.r _::ds=>nO ds
 |.o _ _::_=>false
def iz:List (List D)→Bool
 |[]=>true
 |e::es=>nO e&&iz es
def gm (k:Nat) (mv:Bool) (st:St):V→Option (List (List D)×St)
 |.c (.n _)=>some ([],st)
 |.c (.r (.s k' es))=>if k'=k then some (es.map (·.map D.r),st) else none
 |.c (.f id k' lo n)=>match st.ent id with
  |some (.arr k0 es)=>if k0=k∧k'=k∧lo+n≤es.length then
    (if mv then(if lo=0∧n=es.length then some (es,st.kill id) else none)
     else(if iz ((es.drop lo).take n)=true then some ((es.drop lo).take n,st) else none))
   else none
  |_=>none
 |_=>none
def iQ (nid k bytes:Nat) (mv:Bool) (sv xv:V) (st:St):Option (V×St):=
 match gm k mv st xv with
 |none=>none
 |some (news,st1)=>match sv with
  |.c (.n k')=>if k'=k∧news.length≤maxLen∧news.length*bytes≤140737488355328 then some (.c (.f nid k 0 news.length),st1.set nid (.arr k news)) else none
  |.c (.f id k' lo n)=>match st1.ent id with
   |some (.arr k0 es)=>if k0=k∧k'=k∧lo=0∧n≤es.length∧n+news.length≤maxLen∧(n+news.length)*bytes≤140737488355328 then
    some (.c (.f nid k 0 (n+news.length)),(st1.kill id).set nid (.arr k (es.take n++news))) else none
   |_=>none
  |_=>none
theorem mb:∀(o b:Nat) (ts:List R),aJ w S b o ts→∃ys:List Value,ys.length=ts.length∧ak w S (ts.map D.r) ys []∧(∀y∈ys,y.oneCell'=true)∧∀j u,ys[j]?=some u→w.cell? ⟨b,o+j,none⟩=some u
 |_,_,[],_=>⟨[],rfl,by simp[ak],by simp,by simp⟩
 |o,b,t::ts,h=>by
  simp only[aJ] at h
  obtain⟨⟨y,h1,h2⟩,h3⟩:=h
  obtain⟨ys,e1,e2,e3,e4⟩:=mb (o+1) b ts h3
  refine⟨y::ys,by simp[e1],?_,?_,fun j u hj=>?_⟩
  ·simp only[List.map_cons,ak]
   exact⟨y,ys,[],[],rfl,rfl,by rw[cv];exact⟨rfl,h2⟩,e2⟩
  ·intro y' hy'
   rcases List.mem_cons.1 hy' with rfl|hy'
   ·exact jr (c:=.r t) (φ:=fun _=>undef) rfl (by simpa [av] using h2)
   ·exact e3 y' hy'
  ·cases j with
   |zero=>simp at hj;subst hj;simpa using h1
   |succ j=>rw[show o+(j+1)=o+1+j from by omega];exact e4 j u (by simpa using hj)
theorem nz:∀(o b k:Nat) (es:List (List R)),bv w S b k o es→∃ys:List Value,ys.length=es.length*k∧an w S k (es.map (·.map D.r)) ys []∧(∀y∈ys,y.oneCell'=true)∧∀j u,ys[j]?=some u→w.cell? ⟨b,o+j,none⟩=some u
 |_,_,_,[],_=>⟨[],by simp,by simp[an],by simp,by simp⟩
 |o,b,k,e::es,h=>by
  simp only[bv] at h
  obtain⟨y1,a1,a2,a3,a4⟩:=mb o b e h.1.2
  obtain⟨y2,b1,b2,b3,b4⟩:=nz (o+k) b k es h.2
  refine⟨y1++y2,?_,?_,?_,fun j u hj=>?_⟩
  ·rw[List.length_append,a1,b1,h.1.1,List.length_cons,Nat.succ_mul,Nat.add_comm]
  ·simp only[List.map_cons,an]
   exact⟨y1,y2,[],[],rfl,rfl,⟨by simpa using h.1.1,a2⟩,b2⟩
  ·intro y hy
   rcases List.mem_append.1 hy with hy|hy
   ·exact a3 y hy
   ·exact b3 y hy
  ·rw[List.getElem?_append] at hj
   split at hj
   ·exact a4 j u hj
   ·rename_i hge
    have:=b4 _ u hj
    rw[a1,h.1.1] at this
    rw[show o+j=o+k+(j-k) from by rw[a1,h.1.1] at hge;omega]
    exact this
theorem yD {t:D} {y:Value} {F:List Nat} (h:cv w S t y F):y.oneCell'=true:=by
 cases t with
 |r x=>
  simp only[cv] at h
  exact jr (c:=.r x) (φ:=fun _=>undef) rfl (by simpa [av] using h.2)
 |o k es=>
  simp only[cv] at h
  obtain⟨ty,xs,fps,h1,_⟩:=h
  rcases h1.2 with⟨rfl,_⟩|⟨g,c,cur,rfl,_⟩<;>rfl
theorem n5:∀(ts:List D) (ys:List Value) (F:List Nat),ak w S ts ys F→∀y∈ys,y.oneCell'=true
 |[],ys,F,h=>by simp[ak] at h;simp[h.1]
 |t::ts,ys,F,h=>by
  simp only[ak] at h
  obtain⟨z,zs,f1,f2,rfl,_,h3,h4⟩:=h
  intro y hy
  rcases List.mem_cons.1 hy with rfl|hy
  ·exact yD h3
  ·exact n5 ts zs f2 h4 y hy
theorem pt:∀{k:Nat} (es:List (List D)) (ys:List Value) (F:List Nat),an w S k es ys F→∀y∈ys,y.oneCell'=true
 |_,[],ys,F,h=>by simp[an] at h;simp[h.1]
 |k,e::es,ys,F,h=>by
  simp only[an] at h
  obtain⟨y1,y2,f1,f2,rfl,_,h3,h4⟩:=h
  intro y hy
  rcases List.mem_append.1 hy with hy|hy
  ·exact n5 e y1 f1 h3.2 y hy
  ·exact pt es y2 f2 h4 y hy
theorem uA:∀(ts:List D) (ys:List Value) (F:List Nat),nO ts=true→ak w S ts ys F→ak w S ts ys []
 |[],ys,F,_,h=>by simp[ak] at h ⊢;exact h.1
 |.r x::ts,ys,F,hf,h=>by
  simp only[ak,cv] at h ⊢
  obtain⟨y,zs,f1,f2,rfl,_,h3,h4⟩:=h
  exact⟨y,zs,[],[],rfl,rfl,⟨rfl,h3.2⟩,uA ts zs f2 (by simpa [nO] using hf) h4⟩
 |.o _ _::_,_,_,hf,_=>by simp[nO] at hf
theorem sd:∀{k:Nat} (es:List (List D)) (ys:List Value) (F:List Nat),iz es=true→an w S k es ys F→an w S k es ys []
 |_,[],ys,F,_,h=>by simp[an] at h ⊢;exact h.1
 |k,e::es,ys,F,hf,h=>by
  simp only[an] at h ⊢
  simp only[iz,Bool.and_eq_true] at hf
  obtain⟨y1,y2,f1,f2,rfl,_,h3,h4⟩:=h
  exact⟨y1,y2,[],[],rfl,rfl,⟨h3.1,uA e y1 f1 hf.1 h3.2⟩,sd es y2 f2 hf.2 h4⟩
theorem tj {k:Nat} {mv:Bool} {xv:V} {st1:St} {news:List (List D)} {sv:Value} (hs:gm k mv st xv=some (news,st1)) (h:SimX φ S fp M w0 U N st a w) (hv:vRep w S φ xv sv):
 ∃ys F,pA P w k sv news.length ys∧an w S k news ys F∧F.Nodup∧(∀b∈F,(∃i e,st.ent i=some e∧b∈fp i)∧∀i e,st1.ent i=some e→b∉fp i)∧SimX φ S fp M w0 U N st1 a w∧(∀i e,st1.ent i=some e→st.ent i=some e):=by
 unfold gm at hs
 split at hs
 ·cases hs
  simp only[vRep,av] at hv
  subst hv
  exact⟨[],[],oR k 0,by simp[an],by simp,by simp,h,fun _ _ h=>h⟩
 ·rename_i k' es
  split at hs
  ·rename_i hk
   subst hk
   cases hs
   simp only[vRep,av,aY] at hv
   obtain⟨ad,cap,hy,hle,hcm,hrep⟩:=hv
   subst hy
   by_cases hne:es=[]
   ·subst hne
    exact⟨[],[],nL,by simp[an],by simp,by simp,h,fun _ _ h=>h⟩
   ·obtain⟨b,o,rfl,hS,hrows⟩:=hrep hne
    obtain⟨ys,e1,e2,e3,e4⟩:=nz o b k' es hrows
    refine⟨ys,[],?_,e2,by simp,by simp,h,fun _ _ h=>h⟩
    rw[List.length_map]
    exact kj (by simpa using e1) (fun j u hj=>by rw[Addr.add_lit];exact e4 j u hj)
  ·cases hs
 ·rename_i id k' lo n
  split at hs
  ·rename_i k0 es hent
   split at hs
   ·rename_i hc
    obtain⟨rfl,rfl,hlo⟩:=hc
    obtain⟨u1,u2,u3,u4,u5⟩:=h.ents id _ hent
    obtain⟨ty,xs,fps,o1,o2,o5⟩:=u3
    obtain⟨ad,c,hsv,hnc,hcm⟩:=dJ hv
    have hxs:=bn _ _ _ o2
    have hdr:∃ys F,an w S k' ((es.drop lo).take n) ys F∧ys.length=n*k'∧∀j u,ys[j]?=some u→xs[lo*k'+j]?=some u:=by
     have e3:es=es.take lo++((es.drop lo).take n++(es.drop lo).drop n):=by rw[List.take_append_drop,List.take_append_drop]
     have o2':=o2
     rw[e3] at o2'
     obtain⟨x1,x2,f1,f2,rfl,rfl,g1,g2⟩:=cg _ _ _ _ o2'
     obtain⟨x3,x4,f3,f4,rfl,rfl,g3,g4⟩:=cg _ _ _ _ g2
     have l1:=bn _ _ _ g1
     have l3:=bn _ _ _ g3
     rw[List.length_take,Nat.min_eq_left (by omega)] at l1
     rw[List.length_take,List.length_drop,Nat.min_eq_left (by omega)] at l3
     refine⟨x3,f3,g3,l3,fun j u hj=>?_⟩
     have hlt:j<x3.length:=(List.getElem?_eq_some_iff.1 hj).1
     rw[List.getElem?_append_right (by omega),l1,Nat.add_sub_cancel_left,List.getElem?_append_left hlt]
     exact hj
    obtain⟨ys,F,d1,d2,d3⟩:=hdr
    have hlen:((es.drop lo).take n).length=n:=by rw[List.length_take,List.length_drop];omega
    have hsrc:pA P w k' sv n ys:=by
     subst hsv
     by_cases hn0:n=0
     ·subst hn0
      have:ys=[]:=List.eq_nil_of_length_eq_zero (by simpa using d2)
      subst this
      exact nL
     ·have hadr:∃b N' cap,Hd (φ id) b N' cap∧ad=some ⟨b,lo*k',none⟩:=by
       simp only[vRep,av] at hv
       rcases hv with⟨_,h0,_⟩|⟨rfl,b,N',cap,hh,hy,_⟩|⟨_,a',c',hy,_,_,hh⟩
       ·exact absurd h0 hn0
       ·cases hy
        exact⟨b,N',c,hh,by simp⟩
       ·cases hy
        exact hh (by omega)
      obtain⟨b,N',cap,hh,rfl⟩:=hadr
      exact kj d2 (fun j u hj=>by rw[Addr.add_lit];exact e7 o1 hh (d3 j u hj))
    split at hs
    ·split at hs
     ·rename_i hc2
      obtain⟨rfl,rfl⟩:=hc2
      cases hs
      have hkill:∀i e,(st.kill id).ent i=some e→st.ent i=some e∧i≠id:=fun i e he=>by
       rw[ax] at he
       by_cases hi:i=id
       ·rw[if_pos hi] at he;cases he
       ·rw[if_neg hi] at he;exact⟨he,hi⟩
      have hys:ys=xs:=by
       apply List.ext_getElem?
       intro j
       by_cases hj:j<ys.length
       ·rw[List.getElem?_eq_getElem hj]
        have:=d3 j _ (List.getElem?_eq_getElem hj)
        rw[Nat.zero_mul,Nat.zero_add] at this
        exact this.symm
       ·rw[List.getElem?_eq_none (by omega),List.getElem?_eq_none (by omega)]
      subst hys
      have hnd:fps.Nodup:=by
       rw[o5] at u4
       exact(List.nodup_append.1 u4).2.1
      refine⟨ys,fps,hsrc,o2,hnd,fun b hb=>⟨⟨id,_,hent,by rw[o5];simp[hb]⟩,fun i e he=>?_⟩,h.kill id,fun i e he=>(hkill i e he).1⟩
      obtain⟨he',hne⟩:=hkill i e he
      exact h.disj id _ i e hent he' (Ne.symm hne) b (by rw[o5];simp[hb])
     ·cases hs
    ·split at hs
     ·rename_i hfl
      cases hs
      refine⟨ys,[],by rw[hlen];exact hsrc,sd _ _ _ hfl d1,by simp,by simp,h,fun _ _ h=>h⟩
     ·cases hs
   ·cases hs
  ·cases hs
 ·cases hs
theorem nl {ty k N' n:Nat} {hd y:Value} {xs:List Value} (ho:w.ownsRow 0 ty k hd N' xs) (hn:n≤N') (hy:(hd=.slice none 0 0∧y=.slice none 0 0∧n=0)∨∃b Nn cap,Hd hd b Nn cap∧y=.slice (some ⟨b,0,none⟩) n cap):
 w.ownsRow 0 ty k y n (xs.take (n*k)):=by
 have hmul:n*k≤N'*k:=Nat.mul_le_mul_right k hn
 refine⟨by rw[List.length_take,ho.1];omega,?_⟩
 rcases hy with⟨_,rfl,rfl⟩|⟨b,Nn,cap,hh,rfl⟩
 ·exact .inl ⟨rfl,rfl⟩
 ·rcases ho.2 with⟨hn',_⟩|⟨g,c,cur,hv,h1,h2,h3,h4,h5,h6⟩
  ·rw[hh] at hn';cases hn'
  ·rw[hh] at hv
   cases hv
   refine .inr ⟨b,cap,cur,rfl,h1,h2,by omega,h4,h5,?_⟩
   rw[←h6,List.take_take,Nat.min_eq_left hmul]
end
end Go.Vs
namespace Go.Vs
open Go.RowKit
def elT (P:Program) (e:TypeId):Option (Nat×Nat):=
 match P.info? e with
 |some i=>match i.zero with
  |some z=>if z.cells.size=i.size then some (i.size,i.bytes) else none
  |none=>none
 |none=>none
section
variable {φ:Nat→Value} {S:Nat→Prop} {fp:Nat→List Nat} {M:MS} {w0:World} {U:Nat→Prop} {N:Nat} {st st':St} {a:Act} {w w':World} {P:Program}
theorem nT {e:TypeId} {k bytes:Nat} (h:elT P e=some (k,bytes)):∃i z,P.info? e=some i∧i.zero=some z∧i.size=k∧i.bytes=bytes∧z.cells.size=k:=by
 unfold elT at h
 split at h
 ·rename_i i hi
  split at h
  ·rename_i z hz
   split at h
   ·rename_i hs
    cases h
    exact⟨i,z,hi,hz,rfl,rfl,hs⟩
   ·cases h
  ·cases h
 ·cases h
theorem jT {t e:TypeId} (h:ec P t=some e):P.underlying t=some (.slice e):=by
 unfold ec at h
 split at h
 ·rename_i e' hu;cases h;exact hu
 ·cases h
theorem jA {ty k n id:Nat} {hd:Value} {xs:List Value} (ho:w.ownsRow 0 ty k hd n xs):av w' S (Vs.upd φ id hd) (.f id k 0 n) hd:=by
 rw[av,cu]
 rcases ho.2 with⟨rfl,rfl⟩|⟨g,cap,cur,rfl,_,_,h3,h4,_⟩
 ·exact .inl ⟨rfl,rfl,rfl,rfl⟩
 ·exact .inr (.inl ⟨rfl,g,n,cap,rfl,rfl,h3,h4⟩)
theorem mW {ty k nid:Nat} {es:List (List D)} {v':Value} {xs:List Value} {F:List Nat} {ob:Option Nat} (h:SimX φ S fp M w0 U N st a w) (hid:¬U nid) (hg:w.grownBy w' ob) (hob:∀b,ob=some b→aT S fp M w0 st w b)
 (hv:v'.ownBlock=ob∨v'.ownBlock=some w.heap.size∧w.heap.size<w'.heap.size) (ho:w'.ownsRow 0 ty k v' es.length xs) (hr:an w S k es xs F) (hF:F.Nodup) (hF2:∀b∈F,aT S fp M w0 st w b) (hF3:∀b∈F,some b≠ob):
 ∃fp',SimX (Vs.upd φ nid v') S fp' M w0 (fun i=>U i∨i=nid) N (st.set nid (.arr k es)) a w':=by
 have hkS:∀b,S b→w'.heap[b]?=w.heap[b]?:=fun b hb=>hg.block b (h.sLt b hb) (fun e=>(hob b e.symm).2.2.1 hb)
 have hkF:∀b∈F,w'.heap[b]?=w.heap[b]?:=fun b hb=>hg.block b (hF2 b hb).2.1 (hF3 b hb)
 refine⟨_,h.put_ent (SimX.keepφ hid v') (h.fresh hid) hg.os hg.tape hg.output hg.size (fun b hb hnf=>hg.block b hb (fun e=>hnf (hob b e.symm))) (fun _ hb=>hb) (fun b hb=>.inl hb) (e:=.arr k es) trivial (F:=v'.ownBlock.toList++F) ?_ ?_ (fun b hb=>?_)⟩
 ·exact⟨ty,xs,F,ho,bI (fun _ hb=>hb) hkS _ _ _ _ hkF hr,rfl⟩
 ·refine List.nodup_append.2 ⟨by cases v'.ownBlock<;>simp,hF,fun x hx y hy hxy=>?_⟩
  subst hxy
  have hx':v'.ownBlock=some x:=by simpa using hx
  rcases hv with hv|hv
  ·exact hF3 x hy (by rw[←hv,hx'])
  ·rw[hv.1] at hx'
   have:=(hF2 x hy).2.1
   simp at hx'
   omega
 ·rcases List.mem_append.1 hb with hb|hb
  ·have hx':v'.ownBlock=some b:=by simpa using hb
   rcases hv with hv|hv
   ·exact⟨(hob b (by rw[←hv,hx'])).2.2.1,.inl (hob b (by rw[←hv,hx']))⟩
   ·rw[hv.1] at hx'
    simp at hx'
    subst hx'
    exact⟨fun hs=>by have:=h.sLt _ hs;omega,.inr ⟨Nat.le_refl _,hv.2⟩⟩
  ·exact⟨(hF2 b hb).2.2.1,.inl (hF2 b hb)⟩
theorem vF {id:Nat} {e:Ent} (h:SimX φ S fp M w0 U N st a w) (he:st.ent id=some e):∀b∈fp id,aT S fp M w0 (st.kill id) w b:=fun b hb=>by
 obtain⟨_,_,_,_,u5⟩:=h.ents id e he
 refine⟨(u5 b hb).1,(u5 b hb).2.1,(u5 b hb).2.2,fun i e1 h1=>?_⟩
 rw[ax] at h1
 by_cases hi:i=id
 ·rw[if_pos hi] at h1;cases h1
 ·rw[if_neg hi] at h1;exact h.disj id e i e1 he h1 (Ne.symm hi) b hb
theorem uR {id:Nat} {b:Nat} (h:aT S fp M w0 st w b):aT S fp M w0 (st.kill id) w b:=⟨h.1,h.2.1,h.2.2.1,fun i e h1=>by
 rw[ax] at h1
 by_cases hi:i=id
 ·rw[if_pos hi] at h1;cases h1
 ·rw[if_neg hi] at h1;exact h.2.2.2 i e h1⟩
theorem vW {o:Oper} {t e:TypeId} {s x:Operand} {os ox:O} {k bytes nid:Nat} {mv:Bool} {v:V} (ho:o.op=.call {callee:=.builtin .append,args:=#[s,x],argTypes:=#[t,t]}) (hs:aI s os=true) (hx:aI x ox=true)
 (ht:ec P t=some e) (hk:elT P e=some (k,bytes)) (h:SimX φ S fp M w0 U N st a w) (hn:¬U nid) (he:iQ nid k bytes mv (st.ev os) (st.ev ox) st=some (v,st')):Out P o M w0 U N nid st' v a w:=by
 obtain⟨hvs,hus⟩:=h.ev hs
 obtain⟨hvx,hux⟩:=h.ev hx
 obtain⟨i,z,hi,hz,hsz,hby,hzs⟩:=nT hk
 have hu:=jT ht
 unfold iQ at he
 split at he
 ·cases he
 ·rename_i news st1 hsrc
  obtain⟨ys,F,q1,q2,q3,q4,q5,q6⟩:=tj hsrc h hvx
  have hone:=pt _ _ _ q2
  have hfree:=h.free_of q4
  have hid1:st1.ent nid=none:=q5.fresh hn
  have fin:∀(v':Value) (w':World),(Builtin.append_ #[t,t] o.type #[a.eval s,a.eval x]).run P w=.ok v' w'→∀(n:Nat) (st2:St),(∃ty xs,w'.ownsRow 0 ty k v' n xs)→(∃fp',SimX (Vs.upd φ nid v') S fp' M w0 (fun i=>U i∨i=nid) N st2 a w')→
   v=.c (.f nid k 0 n)→st'=st2→Out P o M w0 U N nid st' v a w:=by
   intro v' w' hr n st2 ⟨ty,xs,how⟩ ⟨fp',hsim⟩ hv hst
   subst hv;subst hst
   refine⟨v',w',_,S,fp',.inl ?_,hsim.mono gX,?_,?_⟩
   ·simp only[execOp,ho]
    simp[resolve,invoke,builtin,hr]
   ·simp only[V.inU,C.inU];exact .inr ⟨Nat.le_refl _,by omega⟩
   ·simp only[vRep];exact jA how
  split at he
  ·rename_i k' e1
   split at he
   ·rename_i hc
    obtain⟨rfl,hm,hb⟩:=hc
    simp only[Option.some.injEq,Prod.mk.injEq] at he
    obtain⟨hv0,hst0⟩:=he
    rw[e1] at hvs
    simp only[vRep,av] at hvs
    obtain⟨v',w',ty1,r1,r2,r3,r4⟩:=iN (P:=P) (w:=w) t o.type e i z k' bytes 0 hu hi hz hsz hby hzs (.slice none 0 0) 0 [] (World.ownsRow_nil w 0 0 k') (a.eval x) news.length ys q1 hone (by omega) (by rw[Nat.zero_add];exact hb)
    simp only[Nat.zero_add,List.nil_append] at r2
    obtain⟨fp',hsim⟩:=mW (ob:=none) q5 hn r3 (fun b hb=>by cases hb) r4 r2 q2 q3 hfree (fun b _=>by simp)
    rw[hvs] at fin
    exact fin v' w' r1 news.length _ ⟨_,_,r2⟩ ⟨fp',hsim⟩ hv0.symm hst0.symm
   ·cases he
  ·rename_i id k' lo n e1
   split at he
   ·rename_i k0 es hent
    split at he
    ·rename_i hc
     obtain⟨rfl,rfl,rfl,hne,hm,hb⟩:=hc
     simp only[Option.some.injEq,Prod.mk.injEq] at he
     obtain⟨hv0,hst0⟩:=he
     rw[e1] at hvs
     obtain⟨u1,u2,u3,u4,u5⟩:=q5.ents id _ hent
     obtain⟨ty,xs,fps,o1,o2,o5⟩:=u3
     have hy:(φ id=.slice none 0 0∧a.eval s=.slice none 0 0∧n=0)∨∃b Nn cap,Hd (φ id) b Nn cap∧a.eval s=.slice (some ⟨b,0,none⟩) n cap:=by
      simp only[vRep,av] at hvs
      rcases hvs with⟨_,h0,h1,h2⟩|⟨_,b,N',cap,hh,hy,_⟩|⟨h0,_⟩
      ·exact .inl ⟨h1,h2,h0⟩
      ·exact .inr ⟨b,N',cap,hh,hy⟩
      ·omega
     have hpre:=nl o1 hne hy
     have hobl:∀b,(a.eval s).ownBlock=some b→b∈fp id:=fun b hb=>by
      rw[o5]
      rcases hy with⟨h1,h2,_⟩|⟨b',Nn,cap,hh,h2⟩
      ·rw[h2] at hb;cases hb
      ·rw[h2] at hb
       have:b'=b:=by simpa [Value.ownBlock] using hb
       subst this
       exact ba (bf hh)
     have hsplit:es=es.take n++es.drop n:=(List.take_append_drop n es).symm
     have o2':=o2
     rw[hsplit] at o2'
     obtain⟨x1,x2,f1,f2,hxs,hfs,g1,g2⟩:=cg _ _ _ _ o2'
     have l1:=bn _ _ _ g1
     have htl:(es.take n).length=n:=by rw[List.length_take];omega
     rw[htl] at l1
     have hx1:xs.take (n*k')=x1:=by rw[hxs,←l1,List.take_left]
     rw[hx1] at hpre
     obtain⟨v',w',ty1,r1,r2,r3,r4⟩:=iN (P:=P) (w:=w) t o.type e i z k' bytes ty hu hi hz hsz hby hzs (a.eval s) n x1 hpre (a.eval x) news.length ys q1 hone hm hb
     have hfk:=vF q5 hent
     have hnd:(f1++F).Nodup:=by
      refine List.nodup_append.2 ⟨?_,q3,fun x hx y hy hxy=>?_⟩
      ·rw[o5,hfs] at u4
       exact(List.nodup_append.1 (List.nodup_append.1 u4).2.1).1
      ·subst hxy
       exact(q4 x hy).2 id _ hent (by rw[o5,hfs];simp[hx])
     have hbn:∀b∈f1++F,some b≠(a.eval s).ownBlock:=fun b hb e=>by
      have hmem:=hobl b e.symm
      rcases List.mem_append.1 hb with hb|hb
      ·rw[o5,hfs] at u4
       have hob:(φ id).ownBlock=some b:=by
        rcases hy with⟨h1,h2,_⟩|⟨b',Nn,cap,hh,h2⟩
        ·rw[h2] at e;cases e
        ·rw[h2] at e
         have:b=b':=by simpa [Value.ownBlock] using e
         rw[this];exact bf hh
       rw[hob] at u4
       simp only[Option.toList,List.singleton_append,List.nodup_cons] at u4
       exact u4.1 (by simp[hb])
      ·exact(q4 b hb).2 id _ hent hmem
     have hlen:(es.take n++news).length=n+news.length:=by rw[List.length_append,htl]
     rw[←hlen] at r2
     obtain⟨fp',hsim⟩:=mW (es:=es.take n++news) (q5.kill id) hn r3 (fun b hb=>hfk b (hobl b hb)) r4 r2 (en _ _ _ _ _ _ g1 q2) hnd (fun b hb=>by
      rcases List.mem_append.1 hb with hb|hb
      ·exact hfk b (by rw[o5,hfs];simp[hb])
      ·exact uR (hfree b hb)) hbn
     rw[hlen] at r2
     exact fin v' w' r1 _ _ ⟨_,_,r2⟩ ⟨fp',hsim⟩ hv0.symm hst0.symm
    ·cases he
   ·cases he
  ·cases he
def cH:List C→Option (List D)
 |[]=>some []
 |.r x::r=>(cH r).map (.r x:: ·)
 |.n k::r=>(cH r).map (.o k []:: ·)
 |_=>none
theorem iw:∀(cs:List C) (ds:List D) (ys:List Value),cH cs=some ds→ar w S φ cs ys→ak w S ds ys []
 |[],ds,ys,h,hr=>by
  simp[cH] at h
  subst h
  simpa [ak,ar] using hr
 |c::cs,ds,ys,h,hr=>by
  obtain⟨z,zs,rfl,hz,hzs⟩:=hr
  cases c with
  |r x=>
   simp only[cH,Option.map_eq_some_iff] at h
   obtain⟨ds',h1,rfl⟩:=h
   simp only[ak]
   exact⟨z,zs,[],[],rfl,rfl,by rw[cv];exact⟨rfl,by simpa [av] using hz⟩,iw cs ds' zs h1 hzs⟩
  |n k=>
   simp only[cH,Option.map_eq_some_iff] at h
   obtain⟨ds',h1,rfl⟩:=h
   simp only[av] at hz
   subst hz
   simp only[ak]
   exact⟨_,zs,[],[],rfl,rfl,r9 k,iw cs ds' zs h1 hzs⟩
  |f id k lo n=>simp[cH] at h
  |p id k i off=>simp[cH] at h
  |un=>simp[cH] at h
  |m id=>simp[cH] at h
theorem gv:∀(cs:List C) (ds:List D),cH cs=some ds→ds.length=cs.length
 |[],ds,h=>by simp[cH] at h;subst h;rfl
 |c::cs,ds,h=>by
  cases c with
  |r x=>simp only[cH,Option.map_eq_some_iff] at h;obtain⟨ds',h1,rfl⟩:=h;simp[gv cs ds' h1]
  |n k=>simp only[cH,Option.map_eq_some_iff] at h;obtain⟨ds',h1,rfl⟩:=h;simp[gv cs ds' h1]
  |f id k lo n=>simp[cH] at h
  |p id k i off=>simp[cH] at h
  |un=>simp[cH] at h
  |m id=>simp[cH] at h
def vo (nid k bytes:Nat) (zs:List C) (l:V) (st:St):Option (V×St):=
 match l,cH zs with
 |.c (.r (.v (.int _ j))),some ds=>if 0≤j∧zs.length=k∧(bytes:Int)*j≤281474976710656∧j≤9223372036854775807 then some (.c (.f nid k 0 j.toNat),st.set nid (.arr k (List.replicate j.toNat ds))) else none
 |_,_=>none
theorem o7 (z:Array Value) (n:Nat):(madeCells z ((n+1)*z.size)).toList=(madeCells z (n*z.size)).toList++z.toList:=by
 simp only[madeCells,Array.toList_map,Array.toList_range]
 rw[Nat.succ_mul,List.range_add,List.map_append]
 congr 1
 rw[List.map_map]
 apply List.ext_getElem
 ·simp
 ·intro j h1 h2
  simp at h1 h2
  simp[Nat.mod_eq_of_lt h1,h1,Nat.add_mod]
theorem nj {k:Nat} {z:Array Value} {ds:List D} (hk:z.size=k) (hd:ak w S ds z.toList []) (hl:ds.length=k):∀n:Nat,an w S k (List.replicate n ds) (madeCells z (n*k)).toList []
 |0=>by simp[an,madeCells]
 |n+1=>by
  rw[←hk,o7,List.replicate_succ']
  rw[hk]
  have:=en (k:=k) (w:=w) (S:=S) (List.replicate n ds) [ds] _ z.toList [] [] (nj hk hd hl n) (by simp only[an];exact⟨z.toList,[],[],[],by simp,rfl,⟨hl,hd⟩,rfl,rfl⟩)
  simpa using this
theorem yH {o:Oper} {t e:TypeId} {l:Operand} {ol:O} {zv:List Value} {zs:List C} {k bytes nid:Nat} {v:V} (ho:o.op=.makeSlice t l l) (hl:aI l ol=true) (ht:ec P t=some e) (hk:elT P e=some (k,bytes)) (hz:i6 P e=some zv) (hzc:il zv zs=true)
 (h:SimX φ S fp M w0 U N st a w) (hn:¬U nid) (he:vo nid k bytes zs (st.ev ol) st=some (v,st')):Out P o M w0 U N nid st' v a w:=by
 obtain⟨hvl,_⟩:=h.ev hl
 obtain⟨i,z,hi,hzz,hsz,hby,hzs⟩:=nT hk
 have hu:=jT ht
 have hzv:zv=z.cells.toList:=by
  simp[i6,hi,hzz] at hz
  exact hz.symm
 subst hzv
 unfold vo at he
 split at he
 ·rename_i kd j ds e1 e2
  split at he
  ·rename_i hc
   obtain⟨h0,hzl,hbb,h63⟩:=hc
   simp only[Option.some.injEq,Prod.mk.injEq] at he
   obtain⟨rfl,rfl⟩:=he
   rw[e1] at hvl
   have hlv:=(bh hvl).1
   have hrun:=run_make (P:=P) w t e i z hu hi hzz kd kd j j h0 (Int.le_refl _) (by rw[hby];exact hbb) h63
   rw[hsz] at hrun
   obtain⟨hr,_⟩:=fQ (w:=w) (S:=S) (φ:=φ) (U:=U) _ _ hzc
   have hdl:=gv _ _ e2
   have hrows:=nj (w:=w) (S:=S) hzs (iw _ _ _ e2 hr) (by omega) j.toNat
   have how:(w.alloc (.cells (madeCells z.cells (j.toNat*k)) e)).ownsRow 0 e k (.slice (some ⟨w.heap.size,0,none⟩) j.toNat j.toNat) j.toNat (madeCells z.cells (j.toNat*k)).toList:=
    ⟨by rw[Array.length_toList,size_madeCells],.inr ⟨w.heap.size,j.toNat,_,rfl,Nat.zero_le _,heap_alloc_new w _,Nat.le_refl _,by unfold maxLen;omega,size_madeCells _ _,List.take_of_length_le (by rw[Array.length_toList,size_madeCells];exact Nat.le_refl _)⟩⟩
   obtain⟨fp',hsim⟩:=mW (es:=List.replicate j.toNat ds) (ob:=none) h hn (World.grownBy_alloc w (.cells (madeCells z.cells (j.toNat*k)) e) none) (fun b hb=>by cases hb) (.inr ⟨rfl,by simp⟩) (by rw[List.length_replicate];exact how) hrows (by simp) (by simp) (by simp)
   refine⟨.slice (some ⟨w.heap.size,0,none⟩) j.toNat j.toNat,_,_,S,fp',.inl ?_,hsim.mono gX,?_,?_⟩
   ·simp only[execOp,ho,hlv]
    rw[Sem.run_bind,hrun]
    rfl
   ·simp only[V.inU,C.inU];exact .inr ⟨Nat.le_refl _,by omega⟩
   ·simp only[vRep];exact jA how
  ·cases he
 ·cases he
def cV (k:Nat) (st:St):List V→Option (List (List D)×St)
 |[]=>some ([],st)
 |v::vs=>match cD v with
  |some cs=>if cs.length=k∧Cs.solid cs=true then match ap st cs with
   |some (ds,st1)=>(cV k st1 vs).map fun p=>(ds::p.1,p.2)
   |none=>none
   else none
  |none=>none
theorem ig {k:Nat}:∀(vs:List V) (st st':St) (es:List (List D)) (ys:List Value),cV k st vs=some (es,st')→SimX φ S fp M w0 U N st a w→aQ w S φ vs ys→
 ∃F,an w S k es (ys.flatMap fun y=>y.cells.toList) F∧F.Nodup∧(∀b∈F,(∃i e,st.ent i=some e∧b∈fp i)∧∀i e,st'.ent i=some e→b∉fp i)∧SimX φ S fp M w0 U N st' a w∧(∀t,st'.get t=st.get t)∧(∀i e,st'.ent i=some e→st.ent i=some e)∧(∀y∈ys,y.cells.size=k)∧es.length=vs.length
 |[],st,st',es,ys,h,hs,hr=>by
  simp[cV] at h
  obtain⟨rfl,rfl⟩:=h
  simp[aQ] at hr
  subst hr
  exact⟨[],by simp[an],by simp,by simp,hs,fun _=>rfl,fun _ _ h=>h,by simp,rfl⟩
 |v::vs,st,st',es,ys,h,hs,hr=>by
  simp only[aQ] at hr
  obtain⟨z,zs,rfl,hz,hzs⟩:=hr
  simp only[cV] at h
  split at h
  ·rename_i cs hcs
   split at h
   ·rename_i hc
    obtain⟨hlen,hsol⟩:=hc
    split at h
    ·rename_i ds st1 hab
     simp only[Option.map_eq_some_iff] at h
     obtain⟨⟨es',s'⟩,h1,h2⟩:=h
     simp only[Prod.mk.injEq] at h2
     obtain⟨rfl,rfl⟩:=h2
     have hcr:=gq hcs hsol hz
     obtain⟨F1,a1,a2,a3,a4,a5,a6⟩:=a9 _ _ _ _ _ hab hs hcr
     obtain⟨F2,b1,b2,b3,b4,b5,b6,b7,b8⟩:=ig vs st1 s' es' zs h1 a4 hzs
     have hdl:=aG _ _ _ a1
     have hcl:=aC _ _ hcr
     refine⟨F1++F2,?_,?_,fun b hb=>?_,b4,fun t=>by rw[b5,a5],fun i e he=>a6 i e (b6 i e he),?_,by simp[b8]⟩
     ·rw[List.flatMap_cons]
      simp only[an]
      exact⟨_,_,F1,F2,rfl,rfl,⟨by omega,a1⟩,b1⟩
     ·refine List.nodup_append.2 ⟨a2,b2,fun x hx y hy hxy=>?_⟩
      subst hxy
      obtain⟨⟨i,e,he,hm⟩,_⟩:=b3 x hy
      exact(a3 x hx).2 i e he hm
     ·rcases List.mem_append.1 hb with hb|hb
      ·exact⟨(a3 b hb).1,fun i e he=>(a3 b hb).2 i e (b6 i e he)⟩
      ·obtain⟨⟨i,e,he,hm⟩,h3⟩:=b3 b hb
       exact⟨⟨i,e,a6 i e he,hm⟩,h3⟩
     ·intro y hy
      rcases List.mem_cons.1 hy with rfl|hy
      ·rw[←Array.length_toList];omega
      ·exact b7 y hy
    ·cases h
   ·cases h
  ·cases h
theorem mf (off:Nat):∀(vs:List Value) (s:Nat) (cells:Array Value),off+s+vs.length≤cells.size→
 ((vs.zipIdx s).foldl (fun(cs:Array Value) (p:Value×Nat)=>cs.setIfInBounds (off+p.2) p.1) cells).toList=cells.toList.take (off+s)++(vs++cells.toList.drop (off+s+vs.length))
 |[],s,cells,_=>by simp
 |v::vs,s,cells,h=>by
  simp only[List.zipIdx_cons,List.foldl_cons,List.length_cons] at h ⊢
  rw[mf off vs (s+1) _ (by simp;omega)]
  simp only[Array.toList_setIfInBounds]
  rw[List.take_set,List.drop_set_of_lt (by omega)]
  have e1:off+(s+1)=off+s+1:=by omega
  rw[e1,show off+s+1+vs.length=off+s+(vs.length+1) from by omega]
  rw[List.set_eq_take_append_cons_drop,if_pos (by simp;omega),List.take_take,List.drop_take]
  simp
theorem mr {place:Nat→Option (Nat×Nat)} {cells:Array Value} {i off size:Nat} {v:Value} {rest:List (Nat×Value)} (hp:place i=some (off,size)) (hs:v.cells.size=size) (hle:off+size≤cells.size):
 Instr.fill place cells ((i,v)::rest)=Instr.fill place (aZ cells.toList off v.cells.toList).toArray rest:=by
 simp only[Instr.fill,hp]
 rw[if_neg (by simp;omega)]
 congr 1
 apply Array.ext'
 rw[←Array.foldl_toList,Array.toList_zipIdx]
 have:=mf off v.cells.toList 0 cells (by simp;omega)
 simp only[Nat.add_zero] at this
 exact this
end
end Go.Vs
namespace Go.Vs
open Go.RowKit
def em:List (Nat×Operand)→Nat→List O→Bool
 |[],_,[]=>true
 |(i,x)::r,s,ox::os=>i==s&&aI x ox&&em r (s+1) os
 |_,_,_=>false
def lY (nid k:Nat) (xs:List O) (st:St):Option (V×St):=
 (cV k st (xs.map st.ev)).map fun p=>(.c (.f nid k 0 xs.length),p.2.set nid (.arr k p.1))
section
variable {φ:Nat→Value} {S:Nat→Prop} {fp:Nat→List Nat} {M:MS} {w0:World} {U:Nat→Prop} {N:Nat} {st st':St} {a:Act} {w w':World} {P:Program}
theorem jV (h:SimX φ S fp M w0 U N st a w):∀(ps:List (Nat×Operand)) (s:Nat) (xs:List O),em ps s xs=true→
 ∃ys:List Value,ps.map (fun p=>(p.1,a.eval p.2))=(ys.zipIdx s).map (fun p=>(p.2,p.1))∧aQ w S φ (xs.map st.ev) ys∧V.insU U (xs.map st.ev)∧ys.length=xs.length
 |[],s,[],_=>⟨[],by simp,by simp[aQ],by simp[V.insU],rfl⟩
 |(i,x)::r,s,ox::os,hp=>by
  simp only[em,Bool.and_eq_true,beq_iff_eq] at hp
  obtain⟨⟨rfl,hx⟩,hr⟩:=hp
  obtain⟨ys,e1,e2,e3,e4⟩:=jV h r (i+1) os hr
  obtain⟨hv,hu⟩:=h.ev hx
  refine⟨a.eval x::ys,by simp[e1],?_,?_,by simp[e4]⟩
  ·simp only[List.map_cons,aQ];exact⟨_,_,rfl,hv,e2⟩
  ·simp only[List.map_cons,V.insU];exact⟨hu,e3⟩
 |[],_,_::_,hp=>by simp[em] at hp
 |_::_,_,[],hp=>by simp[em] at hp
theorem qk {k:Nat}:∀(ys:List Value) (s:Nat) (cells:Array Value),(∀y∈ys,y.cells.size=k)→(s+ys.length)*k≤cells.size→
 ∃r,Instr.fill (fun i=>some (i*k,k)) cells ((ys.zipIdx s).map (fun p=>(p.2,p.1)))=some r∧r.toList=cells.toList.take (s*k)++((ys.flatMap fun y=>y.cells.toList)++cells.toList.drop ((s+ys.length)*k))
 |[],s,cells,_,_=>⟨cells,rfl,by simp⟩
 |y::ys,s,cells,hy,hle=>by
  have hmul:(s+(ys.length+1))*k=s*k+k+ys.length*k:=by rw[Nat.add_mul,Nat.succ_mul];omega
  have hmul2:(s+1+ys.length)*k=s*k+k+ys.length*k:=by rw[show s+1+ys.length=s+(ys.length+1) from by omega];exact hmul
  simp only[List.length_cons] at hle
  rw[hmul] at hle
  have hyk:=hy y (by simp)
  have hlen:y.cells.toList.length=k:=by simpa using hyk
  have hsp:(aZ cells.toList (s*k) y.cells.toList).length=cells.toList.length:=gD _ _ _ (by rw[hlen];simp;omega)
  obtain⟨r,h1,h2⟩:=qk ys (s+1) (aZ cells.toList (s*k) y.cells.toList).toArray (fun y' h'=>hy y' (by simp[h'])) (by rw[List.size_toArray,hsp,hmul2];simp;omega)
  refine⟨r,?_,?_⟩
  ·rw[List.zipIdx_cons,List.map_cons,mr (off:=s*k) (size:=k) rfl hyk (by omega)]
   exact h1
  ·rw[h2]
   simp only[List.flatMap_cons,List.length_cons]
   rw[hmul,hmul2]
   have e0:(s+1)*k=s*k+k:=Nat.succ_mul s k
   rw[e0]
   unfold aZ
   rw[hlen]
   have l1:(cells.toList.take (s*k)).length=s*k:=by simp;omega
   rw[List.take_append,List.take_of_length_le (by omega:(cells.toList.take (s*k)).length≤s*k+k),l1,Nat.add_sub_cancel_left,List.take_append,hlen,Nat.sub_self,List.take_zero,List.append_nil,List.take_of_length_le (by omega:y.cells.toList.length≤k)]
   rw[List.drop_append,List.drop_of_length_le (by omega:(cells.toList.take (s*k)).length≤s*k+k+ys.length*k),l1,List.nil_append,List.drop_append,List.drop_of_length_le (by omega:y.cells.toList.length≤s*k+k+ys.length*k-s*k),List.nil_append,List.drop_drop,hlen]
   simp only[List.append_assoc]
   congr 4
   omega
theorem pV {o:Oper} {t e:TypeId} {n:Nat} {parts:Array (Nat×Operand)} {xs:List O} {k bytes nid:Nat} {v:V} (ho:o.op=.buildSlice t n parts) (hp:em parts.toList 0 xs=true) (hnl:n=xs.length) (hlim:n*k≤16777216∧n≤16777216)
 (ht:ec P t=some e) (hk:elT P e=some (k,bytes)) (h:SimX φ S fp M w0 U N st a w) (hn:¬U nid) (he:lY nid k xs st=some (v,st')):Out P o M w0 U N nid st' v a w:=by
 obtain⟨i,z,hi,hz,hsz,hby,hzs⟩:=nT hk
 have hu:=jT ht
 obtain⟨ys,p1,p2,p3,p4⟩:=jV h _ _ _ hp
 simp only[lY,Option.map_eq_some_iff] at he
 obtain⟨⟨es,st1⟩,hab,he2⟩:=he
 simp only[Prod.mk.injEq] at he2
 obtain⟨hv0,hst0⟩:=he2
 obtain⟨F,b1,b2,b3,b4,b5,b6,b7,b8⟩:=ig _ _ _ _ _ hab h p2
 have hyl:ys.length=n:=by omega
 have hfl:(ys.flatMap fun y=>y.cells.toList).length=n*k:=by
  rw[←hyl]
  clear p1 p2 p4 b1 hyl
  induction ys with
  |nil=>simp
  |cons y ys ih=>
   rw[List.flatMap_cons,List.length_append,ih (fun y' h'=>b7 y' (by simp[h'])),List.length_cons,Nat.succ_mul,Array.length_toList,b7 y (by simp),Nat.add_comm]
 obtain⟨c0,hc0,hc0s⟩:∃c0:Array Value,((do
  let zero←if n*k=0 then Pure.pure #[] else do Pure.pure (←zeroValue e).cells
  Pure.pure ((Array.range (n*k)).map (zero[· %zero.size]!))):Sem (Array Value)).run P w=.ok c0 w∧c0.size=n*k:=by
  by_cases h0:n*k=0
  ·refine⟨#[],by simp[h0],by simp[h0]⟩
  ·refine⟨madeCells z.cells (n*k),?_,size_madeCells _ _⟩
   simp[h0,zeroValue,typeInfo,hi,hz,madeCells]
 obtain⟨r,f1,f2⟩:=qk (k:=k) ys 0 c0 b7 (by rw[Nat.zero_add,hyl,hc0s];exact Nat.le_refl _)
 rw[Nat.zero_mul,List.take_zero,List.nil_append,Nat.zero_add,hyl,List.drop_of_length_le (by simp[hc0s]),List.append_nil] at f2
 have hrsz:r.size=n*k:=by rw[←Array.length_toList,f2,hfl]
 have hrun:(execOp a.eval o).run P w=.ok (.value (.slice (some ⟨w.heap.size,0,none⟩) n n)) (w.alloc (.cells r e)):=by
  simp only[execOp,ho]
  rw[Sem.run_bind]
  have hlim':¬(16777216<n*k):=by have:=hlim.1;omega
  simp only[Sem.run_bind] at hc0
  simp only[Instr.buildSlice,Sem.run_bind,run_underlying hu,Result.andThen_ok]
  by_cases h0:n*k=0
  ·simp[h0] at hc0
   subst hc0
   simp[sizeOf,typeInfo,hi,hsz,h0]
   rw[p1,f1]
   simp[newRow]
  ·simp[h0,zeroValue,typeInfo,hi,hz] at hc0
   subst hc0
   simp[sizeOf,typeInfo,hi,hsz,h0,hlim',zeroValue,hz]
   rw[p1,f1]
   simp[newRow]
 have how:(w.alloc (.cells r e)).ownsRow 0 e k (.slice (some ⟨w.heap.size,0,none⟩) n n) es.length (ys.flatMap fun y=>y.cells.toList):=by
  have hel:es.length=n:=by rw[b8,List.length_map];exact hnl.symm
  rw[hel]
  exact⟨hfl,.inr ⟨w.heap.size,n,r,rfl,Nat.zero_le _,heap_alloc_new w _,Nat.le_refl _,by
   have:=hlim.2
   unfold maxLen
   omega,hrsz,by rw[←f2,←hrsz,←Array.length_toList];exact List.take_length⟩⟩
 obtain⟨fp',hsim⟩:=mW (es:=es) (ob:=none) b4 hn (World.grownBy_alloc w (.cells r e) none) (fun b hb=>by cases hb) (.inr ⟨rfl,by simp⟩) how b1 b2 (h.free_of b3) (by simp)
 subst hv0;subst hst0
 refine⟨_,_,_,S,fp',.inl hrun,hsim.mono gX,?_,?_⟩
 ·simp only[V.inU,C.inU];exact .inr ⟨Nat.le_refl _,by omega⟩
 ·simp only[vRep]
  have hel:es.length=xs.length:=by rw[b8,List.length_map]
  rw[←hel]
  exact jA how
end
end Go.Vs
