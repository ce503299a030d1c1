/- Part of the proofs of this seat's laws: Ve. No condition. -/
import Derived.Test.YticpmdigfdpmfaaDoorVd
set_option linter.unusedVariables false
set_option linter.unusedSimpArgs false
set_option linter.unusedSectionVars false
namespace Go.Vs
open Go.RowKit
def eZ (cls:List (List Nat)):Nat→List Oper→List (List Nat)→Bool
 |_,[],[]=>true
 |k,o::os,c::cs=>(o.after.toList.all fun e=> !Region.binds .any e||decide (e.on<k))&&(c.all fun i=>o.after.toList.any fun e=>Region.binds .any e&&(e.on==i||lj (cls.getD e.on []) i))&&eZ cls (k+1) os cs
 |_,_,_=>false
theorem gf {cls:List (List Nat)}:∀(os:List Oper) (cs:List (List Nat)) (k:Nat),eZ cls k os cs=true→∀j o,os[j]?=some o→
 (∀e∈o.after,Region.binds .any e=true→e.on<k+j)∧∀i∈cs.getD j [],∃e∈o.after,Region.binds .any e=true∧(e.on=i∨i∈cls.getD e.on [])
 |[],_,_,_,j,o,ho=>by simp at ho
 |o0::os,[],k,h,_,_,_=>by simp[eZ] at h
 |o0::os,c::cs,k,h,j,o,ho=>by
  simp only[eZ,Bool.and_eq_true,List.all_eq_true,List.any_eq_true,Bool.or_eq_true,Bool.not_eq_true',decide_eq_true_eq,beq_iff_eq] at h
  obtain⟨⟨h1,h2⟩,h3⟩:=h
  cases j with
  |zero=>
   simp at ho
   subst ho
   refine⟨fun e he hb=>?_,fun i hi=>?_⟩
   ·rcases h1 e (by simpa using he) with h|h
    ·rw[hb] at h;cases h
    ·simpa using h
   ·obtain⟨e,he,hb,ho⟩:=h2 i (by simpa using hi)
    exact⟨e,by simpa using he,hb,ho.imp id (dn _ _).1⟩
  |succ j=>
   have:=gf os cs (k+1) h3 j o (by simpa using ho)
   refine⟨fun e he hb=>by have:=this.1 e he hb;omega,fun i hi=>this.2 i (by simpa using hi)⟩
theorem jO {α:Type} {d:α} {D:Nat→Bool} {i t:Nat} {es:List (List (Nat×α))} {l:List (Nat×α)} (hDi:D i=false)
 (hlow:∀k e',k<i→es[k]?=some e'→t∈bR e'→D k=true) (hhigh:∀k e',i<k→es[k]?=some e'→t∈bR e'→D k=false):
 an d (aX D 0 es l) t=an d (aX (fun k=>decide (k<i)) 0 es l) t:=by
 refine ch es 0 l l (fun k e' he ht=>?_) rfl
 rw[Nat.zero_add]
 rcases Nat.lt_trichotomy k i with h|h|h
 ·rw[hlow k e' h he ht];simp[h]
 ·subst h;rw[hDi];simp
 ·rw[hhigh k e' h he ht];simp;omega
theorem jg {α:Type} {d:α} {D D':Nat→Bool} {i t:Nat} {es:List (List (Nat×α))} {l:List (Nat×α)} {e:List (Nat×α)} (he:es[i]?=some e) (hD'i:D' i=true) (hD':∀k,k≠i→D' k=D k)
 (hlow:∀k e',k<i→es[k]?=some e'→t∈bR e'→t∈bR e→D k=true) (hhigh:∀k e',i<k→es[k]?=some e'→t∈bR e'→t∈bR e→D k=false):
 an d (aX D' 0 es l) t=an d (e++aX D 0 es l) t:=by
 by_cases ht:t∈bR e
 ·rw[eI e _ (aX (fun k=>decide (k<0+i)) 0 es l) t ht,←il es 0 i l e he]
  refine ch es 0 l l (fun k e' hk hkt=>?_) rfl
  rw[Nat.zero_add]
  rcases Nat.lt_trichotomy k i with h|h|h
  ·rw[hD' k (by omega),hlow k e' h hk hkt ht];simp;omega
  ·subst h;rw[hD'i];simp
  ·rw[hD' k (by omega),hhigh k e' h hk hkt ht];simp;omega
 ·rw[eH e _ t ht]
  refine ch es 0 l l (fun k e' hk hkt=>?_) rfl
  rw[Nat.zero_add]
  refine hD' k (fun hki=>?_)
  subst hki
  rw[he] at hk
  cases hk
  exact ht hkt
def iL:List Bool→Nat
 |[]=>0
 |b::bs=>(if b then 0 else 1)+iL bs
theorem kJ:∀(l:List Bool) (i:Nat),l[i]?=some false→iL (l.set i true)+1=iL l
 |[],i,h=>by simp at h
 |b::bs,0,h=>by simp at h;subst h;simp[iL];omega
 |b::bs,i+1,h=>by
  simp only[List.set_cons_succ,iL]
  have:=kJ bs i (by simpa using h)
  omega
theorem je:∀(l:List Bool) (i:Nat),iL l=0→i<l.length→l[i]?=some true
 |[],i,_,h=>by simp at h
 |b::bs,i,h,hi=>by
  simp only[iL] at h
  cases b with
  |false=>simp at h
  |true=>
   cases i with
   |zero=>simp
   |succ i=>simpa using je bs i (by simpa using h) (by simpa using hi)
theorem pg (n:Nat):iL (List.replicate n false)=n:=by
 induction n with
 |zero=>rfl
 |succ n ih=>simp[List.replicate_succ,iL,ih];omega
def UD (nid n:Nat) (D:Nat→Bool):Nat→Prop:=fun i=>i<nid∨∃j,j<n∧D j=true∧nid+16*j≤i∧i<nid+16*j+16
section
variable {M:MS} {w0:World} {N:Nat} {P:Program} {ops:Array Oper} {Q:Exit→Act→World→Prop} {K:St→Prop} {nid:Nat} {st:St} {ss:List Ins} {es:List Eff} {fs:List Fx} {cls:List (List Nat)}
theorem gU:∀(os:List Oper) (ss:List Ins) (all:List Oper),aY P N all os ss=true→os.length=ss.length∧∀(j:Nat) (o:Oper),os[j]?=some o→∃s,ss[j]?=some s∧kb P N all o s=true
 |[],[],all,_=>⟨rfl,fun j o h=>by simp at h⟩
 |o::os,s::ss,all,h=>by
  simp only[aY,Bool.and_eq_true] at h
  obtain⟨h1,h2⟩:=gU os ss all h.2
  refine⟨by simp[h1],fun j o' ho=>?_⟩
  cases j with
  |zero=>simp at ho;subst ho;exact⟨s,rfl,h.1⟩
  |succ j=>simpa using h2 j o' (by simpa using ho)
 |[],_::_,_,h=>by simp[aY] at h
 |_::_,[],_,h=>by simp[aY] at h
theorem rb (hL:Keeps P M.bl w0) (hfit:aY P N ops.toList ops.toList ss=true) (hdep:eZ cls 0 ops.toList cls=true) (hch:Chain P nid st ss es fs) (hind:kV cls fs=true) (hQ:∀st' a w,K st'→Sim M w0 (· <nid+16*ss.length) N st' a w→Q .normal a w) (hK:K (nP st es)):
 ∀(fuel:Nat) (listed:Array Bool) (a:Act) (w:World),listed.size=ops.size→iL listed.toList≤fuel→(∀j,j<ops.size→listed.getD j false=true→∀i∈cls.getD j [],listed.getD i false=true)→
  Sim M w0 (UD nid ops.size fun i=>listed.getD i false) N (stD (fun i=>listed.getD i false) es st) a w→wpAny P .any ops Q fuel listed a w:=by
 obtain⟨hlen,hops⟩:=gU _ _ _ hfit
 obtain⟨l1,l2,l3,l4⟩:=Chain.at _ _ _ _ _ hch
 have hd:=gf _ _ _ hdep
 have hn:ops.size=ss.length:=by simpa using hlen
 have hall:∀(listed:Array Bool) (a:Act) (w:World),listed.size=ops.size→Region.ready .any ops listed=[]→Sim M w0 (UD nid ops.size fun i=>listed.getD i false) N (stD (fun i=>listed.getD i false) es st) a w→Q .normal a w:=by
  intro listed a w hs hr h
  have hall:∀j,j<ops.size→listed.getD j false=true:=by
   intro j
   induction j using Nat.strongRecOn with
   |ind j ih=>
    intro hj
    cases hD:listed.getD j false with
    |true=>rfl
    |false=>
     have hmem:j∈Region.ready .any ops listed:=by
      unfold Region.ready
      simp only[List.mem_filter,List.mem_range,Bool.and_eq_true,Bool.not_eq_true']
      refine⟨hj,?_,?_⟩
      ·rw[Array.getD_eq_getD_getElem?,Array.getElem?_eq_getElem (by omega)] at hD ⊢
       simpa using hD
      ·rw[Array.getElem?_eq_getElem hj]
       simp only[Option.map_some,Option.getD_some,Array.all_eq_true_iff_forall_mem,Bool.or_eq_true,Bool.not_eq_true']
       intro e he
       cases hb:Region.binds .any e with
       |false=>exact .inl rfl
       |true=>
        have:=(hd j ops[j] (by simp[hj])).1 e he hb
        exact .inr (ih e.on (by omega) (by omega))
     rw[hr] at hmem
     cases hmem
  refine hQ _ a w hK ?_
  have hsame:same (stD (fun i=>listed.getD i false) es st) (nP st es):=by
   rw[l3]
   refine⟨fun t=>ch _ 0 _ _ (fun i e he _=>?_) rfl,fun id=>ch _ 0 _ _ (fun i e he _=>?_) rfl⟩
   all_goals
    have hi:i<es.length:=by
     have:=(List.getElem?_eq_some_iff.1 he).1
     simpa using this
    rw[Nat.zero_add]
    exact(hall i (by omega)).symm
  obtain⟨φ,S,fp,h'⟩:=Sim.of_same h hsame
  refine⟨φ,S,fp,h'.mono fun i hi=>?_⟩
  rcases hi with hi|⟨j,h1,_,h3,h4⟩
  ·show i<_;omega
  ·show i<_;omega
 intro fuel
 induction fuel with
 |zero=>
  intro listed a w hs hc hdc h
  have hr:Region.ready .any ops listed=[]:=by
   rw[List.eq_nil_iff_forall_not_mem]
   intro i hi
   unfold Region.ready at hi
   simp only[List.mem_filter,List.mem_range,Bool.and_eq_true,Bool.not_eq_true'] at hi
   have:=je listed.toList i (by omega) (by simp;omega)
   have h2:=hi.2.1
   rw[Array.getD_eq_getD_getElem?] at h2
   rw[Array.getElem?_toList] at this
   rw[this] at h2
   cases h2
  exact⟨hr,hall listed a w hs hr h⟩
 |succ fuel ih=>
  intro listed a w hs hc hdc h
  refine⟨fun hr=>hall listed a w hs hr h,fun i hi=>?_⟩
  unfold Region.ready at hi
  simp only[List.mem_filter,List.mem_range,Bool.and_eq_true,Bool.not_eq_true'] at hi
  obtain⟨hin,hun,haf⟩:=hi
  have hoi:ops[i]?=some ops[i]:=by rw[Array.getElem?_eq_getElem hin]
  rw[hoi] at haf
  simp only[Option.map_some,Option.getD_some,Array.all_eq_true_iff_forall_mem,Bool.or_eq_true,Bool.not_eq_true'] at haf
  have hDi:listed.getD i false=false:=by
   rw[Array.getD_eq_getD_getElem?,Array.getElem?_eq_getElem (by omega)] at hun ⊢
   simpa using hun
  have hcl:∀k∈cls.getD i [],listed.getD k false=true:=fun k hk=>by
   obtain⟨e,he,hb,ho⟩:=(hd i ops[i] (by simp[hin])).2 k hk
   have hl:listed.getD e.on false=true:=by
    rcases haf e he with h|h
    ·rw[hb] at h;cases h
    ·exact h
   rcases ho with rfl|ho
   ·exact hl
   ·have:=(hd i ops[i] (by simp[hin])).1 e he hb
    exact hdc e.on (by omega) hl k ho
  obtain⟨s,hsi,hfi⟩:=hops i ops[i] (by simp[hin])
  obtain⟨e,f,he,hf,hws,hwi,hst⟩:=l4 i s hsi
  have hfk:∀k,k<ops.size→∃e' f',es[k]?=some e'∧fs[k]?=some f'∧f'.ws=bR e'.sl∧f'.wi=bR e'.tab:=fun k hk=>by
   obtain⟨s',hs',_⟩:=hops k ops[k] (by simp[hk])
   obtain⟨e',f',a1,a2,a3,a4,_⟩:=l4 k s' hs'
   exact⟨e',f',a1,a2,a3,a4⟩
  have apartS:∀{g f:Fx},g.apart f=true→(∀x∈g.ws,x∉f.rs∧x∉f.ws)∧(∀x∈g.wi,x∉f.ri∧x∉f.wi)∧(∀x∈f.ws,x∉g.rs)∧(∀x∈f.wi,x∉g.ri):=fun h=>by
   simp only[Fx.apart,Bool.and_eq_true] at h
   obtain⟨⟨⟨⟨⟨h1,h2⟩,h3⟩,h4⟩,h5⟩,h6⟩:=h
   exact⟨fun x hx=>⟨cg h1 x hx,cg h2 x hx⟩,fun x hx=>⟨cg h3 x hx,cg h4 x hx⟩,cg h5,cg h6⟩
  have low:∀k e',k<i→es[k]?=some e'→((∃t,t∈bR e'.sl∧(t∈f.rs∨t∈f.ws))∨∃t,t∈bR e'.tab∧(t∈f.ri∨t∈f.wi))→listed.getD k false=true:=by
   intro k e' hk hke hm
   obtain⟨e2,f',a1,a2,a3,a4⟩:=hfk k (by omega)
   rw[a1] at hke;cases hke
   rcases g8 hind hk a2 hf with hx|hx
   ·exact hcl k hx
   ·obtain⟨b1,b2,_,_⟩:=apartS hx
    rcases hm with⟨t,ht,hm⟩|⟨t,ht,hm⟩
    ·have:=b1 t (a3▸ht);rcases hm with hm|hm
     ·exact absurd hm this.1
     ·exact absurd hm this.2
    ·have:=b2 t (a4▸ht);rcases hm with hm|hm
     ·exact absurd hm this.1
     ·exact absurd hm this.2
  have high:∀k e',i<k→es[k]?=some e'→((∃t,t∈bR e'.sl∧(t∈f.rs∨t∈f.ws))∨∃t,t∈bR e'.tab∧(t∈f.ri∨t∈f.wi))→listed.getD k false=false:=by
   intro k e' hk hke hm
   have hkn:k<ops.size:=by
    have:=(List.getElem?_eq_some_iff.1 hke).1
    omega
   obtain⟨e2,f',a1,a2,a3,a4⟩:=hfk k hkn
   rw[a1] at hke;cases hke
   rcases g8 hind hk hf a2 with hx|hx
   ·cases hlk:listed.getD k false with
    |false=>rfl
    |true=>
     have:=hdc k hkn hlk i hx
     rw[hDi] at this
     cases this
   ·obtain⟨b1,b2,b3,b4⟩:=apartS hx
    rcases hm with⟨t,ht,hm⟩|⟨t,ht,hm⟩
    ·rcases hm with hm|hm
     ·exact absurd hm (b3 t (a3▸ht))
     ·exact absurd (a3▸ht) (b1 t hm).2
    ·rcases hm with hm|hm
     ·exact absurd hm (b4 t (a4▸ht))
     ·exact absurd (a4▸ht) (b2 t hm).2
  have mapget:∀{α:Type} (g:Eff→α) (k:Nat) (y:α),(es.map g)[k]?=some y→∃e',es[k]?=some e'∧g e'=y:=fun g k y h=>by
   simpa [List.getElem?_map] using h
  have hstep:=hst (stD (fun i=>listed.getD i false) es st)
   (fun t ht=>jO (D:=fun i=>listed.getD i false) hDi (fun k y hk hy hty=>by
    obtain⟨e',h1,rfl⟩:=mapget _ k y hy
    exact low k e' hk h1 (.inl ⟨t,hty,.inl ht⟩)) (fun k y hk hy hty=>by
    obtain⟨e',h1,rfl⟩:=mapget _ k y hy
    exact high k e' hk h1 (.inl ⟨t,hty,.inl ht⟩)))
   (fun t ht=>jO (D:=fun i=>listed.getD i false) hDi (fun k y hk hy hty=>by
    obtain⟨e',h1,rfl⟩:=mapget _ k y hy
    exact low k e' hk h1 (.inr ⟨t,hty,.inl ht⟩)) (fun k y hk hy hty=>by
    obtain⟨e',h1,rfl⟩:=mapget _ k y hy
    exact high k e' hk h1 (.inr ⟨t,hty,.inl ht⟩)))
  obtain⟨φ,S,fp,hsim⟩:=h
  have hset:∀k,(listed.setIfInBounds i true).getD k false=if k=i then true else listed.getD k false:=fun k=>by
   rw[Array.getD_eq_getD_getElem?,Array.getElem?_setIfInBounds]
   by_cases hki:k=i
   ·subst hki
    simp[hs,hin]
   ·simp[hki,Ne.symm hki,Array.getD_eq_getD_getElem?]
  refine wpOp_mono (fun a' w' ⟨st',hst',hs'⟩=>?_) (g6 hL hoi hfi hsim (fun c h1 h2 hu=>?_) hstep)
  rotate_left
  ·subst hst'
   refine ih _ a' w' (by simp[hs]) ?_ ?_ ?_
   ·have hget:listed.toList[i]?=some false:=by
     rw[Array.getElem?_toList,Array.getElem?_eq_getElem (by omega)]
     rw[Array.getD_eq_getD_getElem?,Array.getElem?_eq_getElem (by omega)] at hDi
     simpa using hDi
    have:=kJ listed.toList i hget
    rw[Array.toList_setIfInBounds]
    omega
   ·intro j hj hlj k hk
    rw[hset] at hlj ⊢
    split
    ·rfl
    ·rename_i hki
     by_cases hji:j=i
     ·subst hji;exact hcl k hk
     ·rw[if_neg hji] at hlj;exact hdc j hj hlj k hk
   ·obtain⟨φ2,S2,fp2,hs2⟩:=hs'
    refine Sim.of_same (st:=(stD (fun i=>listed.getD i false) es st).eff e) ⟨φ2,S2,fp2,hs2.mono fun c hc=>?_⟩ ⟨fun t=>?_,fun t=>?_⟩
    ·rcases hc with(hc|⟨j,h1,h2,h3⟩)|hc
     ·exact .inl hc
     ·refine .inr ⟨j,h1,?_,h3⟩
      simp only[hset]
      split
      ·rfl
      ·exact h2
     ·exact .inr ⟨i,hin,by simp only[hset,if_true],hc⟩
    ·refine jg (D:=fun i=>listed.getD i false) (D':=fun k=>(listed.setIfInBounds i true).getD k false) (i:=i) (es:=es.map (·.sl)) (e:=e.sl) (by simp[he]) (by simp only[hset,if_true]) (fun k hk=>by simp only[hset,if_neg hk]) (fun k y hk hy hty hte=>?_) (fun k y hk hy hty hte=>?_)
     ·obtain⟨e',h1,rfl⟩:=mapget _ k y hy
      exact low k e' hk h1 (.inl ⟨t,hty,.inr (hws▸hte)⟩)
     ·obtain⟨e',h1,rfl⟩:=mapget _ k y hy
      exact high k e' hk h1 (.inl ⟨t,hty,.inr (hws▸hte)⟩)
    ·refine jg (D:=fun i=>listed.getD i false) (D':=fun k=>(listed.setIfInBounds i true).getD k false) (i:=i) (es:=es.map (·.tab)) (e:=e.tab) (by simp[he]) (by simp only[hset,if_true]) (fun k hk=>by simp only[hset,if_neg hk]) (fun k y hk hy hty hte=>?_) (fun k y hk hy hty hte=>?_)
     ·obtain⟨e',h1,rfl⟩:=mapget _ k y hy
      exact low k e' hk h1 (.inr ⟨t,hty,.inr (hwi▸hte)⟩)
     ·obtain⟨e',h1,rfl⟩:=mapget _ k y hy
      exact high k e' hk h1 (.inr ⟨t,hty,.inr (hwi▸hte)⟩)
  ·rcases hu with hu|⟨j,j1,j2,j3,j4⟩
   ·omega
   ·have:j≠i:=fun e=>by subst e;exact absurd (show listed.getD j false=true from j2) (by rw[hDi];simp)
    omega
theorem gC (hL:Keeps P M.bl w0) {id:Nat} {a:Act} {w:World} (hm:P.follows .mixedOrders=true) (hfit:aY P N ops.toList ops.toList ss=true) (hdep:eZ cls 0 ops.toList cls=true) (hQ:∀st' a w,K st'→Sim M w0 (· <nid+16*ss.length) N st' a w→Q .normal a w)
 (h:Sim M w0 (· <nid) N st a w) (hk:gM P cls nid st ss [] K):(Code.region id ops true).wp P Q a w:=by
 obtain⟨es,fs,hch,hind,hK⟩:=gi ss nid st [] hk
 refine wp_region_any hm ?_
 have hD:∀i,(Array.replicate ops.size false).getD i false=false:=fun i=>by
  rw[Array.getD_eq_getD_getElem?,Array.getElem?_replicate]
  split<;>rfl
 refine rb hL hfit hdep hch (by simpa using hind) hQ hK _ _ _ _ (by simp) (by simp[pg]) (fun j _ hj=>by rw[hD] at hj;cases hj) ?_
 obtain⟨φ,S,fp,h⟩:=h
 have e0:∀{α:Type} (es:List (List (Nat×α))) (k:Nat) (l:List (Nat×α)),aX (fun i=>(Array.replicate ops.size false).getD i false) k es l=l:=by
  intro α es
  induction es with
  |nil=>intro k l;rfl
  |cons e es ih=>intro k l;simp only[aX];rw[ih];simp only[hD,Bool.false_eq_true,if_false]
 refine⟨φ,S,fp,?_⟩
 have e1:stD (fun i=>(Array.replicate ops.size false).getD i false) es st=st:=by simp only[stD,e0]
 rw[e1]
 exact SimX.mono (h.world (w':={w with drawn:=w.drawn+1}) rfl rfl rfl (Nat.le_refl _) (fun _ _=>rfl)) (fun i hi=>.inl hi)
end
end Go.Vs
namespace Go.Vs
open Go.RowKit
structure G where
 wrap:IntKind→Int→Int
 lt:Int→Int→Bool
 le:Int→Int→Bool
 eq:Int→Int→Bool
 quo:Int→Int→Int
 rem:Int→Int→Int
 band:IntKind→Int→Int→Int
 bor:IntKind→Int→Int→Int
 bxor:IntKind→Int→Int→Int
 shl:IntKind→Int→Int→Int
 shr:IntKind→Int→Int→Int
 nat:Int→Nat
 int:Nat→Int
 add:Int→Int→Int
 sub:Int→Int→Int
 mul:Int→Int→Int
 cat:ByteArray→ByteArray→ByteArray
 seq:ByteArray→ByteArray→Bool
 slt:ByteArray→ByteArray→Bool
 sub3:ByteArray→Int→Int→ByteArray
 byte:ByteArray→Int→Int
 llen:List (List R)→Int
 nadd:Nat→Nat→Nat
 nsub:Nat→Nat→Nat
 dlen:List (List D)→Nat
 dapp:List (List D)→Nat→List (List D)→List (List D)
 dset:List (List D)→Nat→List D→List (List D)
 drep:Int→List D→List (List D)
 rd:List (List D)→Nat→Nat→List (List R)
 rda:List (List D)→List (List R)
 up:List (List R)→List (List D)
 rsub:List (List R)→Int→Int→List (List R)
 dsub:List (List D)→Nat→Nat→List (List D)
 all:List Bool→Bool
 sle:ByteArray→ByteArray→Bool
 slen:ByteArray→Nat
 hasI:List Int→Int→Bool
 putI:List Int→Int→List Int
 hasS:List ByteArray→ByteArray→Bool
 putS:List ByteArray→ByteArray→List ByteArray
 imin:Int→Int→Int
 imax:Int→Int→Int
 fzc:Nat→List (List D)→List (List D)
 bstr:List Int→ByteArray
structure G.Ok (g:G):Prop where
 wrap:∀k n,g.wrap k n=k.wrap n
 lt:∀a b,g.lt a b=decide (a<b)
 le:∀a b,g.le a b=decide (a≤b)
 eq:∀a b,g.eq a b=(a==b)
 quo:∀a b,g.quo a b=a.tdiv b
 rem:∀a b,g.rem a b=a.tmod b
 band:∀k a b,g.band k a b=k.wrap (BitVec.ofInt k.bits a&&& BitVec.ofInt k.bits b).toNat
 bor:∀k a b,g.bor k a b=k.wrap (BitVec.ofInt k.bits a|||BitVec.ofInt k.bits b).toNat
 bxor:∀k a b,g.bxor k a b=k.wrap (BitVec.ofInt k.bits a^^^BitVec.ofInt k.bits b).toNat
 shl:∀k x y,g.shl k x y=k.wrap (x*2^(min y.toNat k.bits))
 shr:∀k x y,g.shr k x y=x.fdiv (2^(min y.toNat k.bits))
 nat:∀a,g.nat a=a.toNat
 int:∀n,g.int n=(n:Int)
 add:∀a b,g.add a b=a+b
 sub:∀a b,g.sub a b=a-b
 mul:∀a b,g.mul a b=a*b
 cat:∀a b,g.cat a b=a++b
 seq:∀a b,g.seq a b=(a.toList==b.toList)
 slt:∀a b,g.slt a b=Op.bytesLess a.toList b.toList
 sub3:∀s l h,g.sub3 s l h=s.extract l.toNat h.toNat
 byte:∀s j,g.byte s j=((s.data.getD j.toNat 0).toNat:Int)
 llen:∀es,g.llen es=(es.length:Int)
 nadd:∀a b,g.nadd a b=a+b
 nsub:∀a b,g.nsub a b=a-b
 dlen:∀es,g.dlen es=es.length
 dapp:∀es n news,g.dapp es n news=es.take n++news
 dset:∀es i e,g.dset es i e=es.set i e
 drep:∀j ds,g.drep j ds=List.replicate j.toNat ds
 rd:∀es lo n,g.rd es lo n=toRdss ((es.drop lo).take n)
 rda:∀es,g.rda es=toRdss es
 up:∀es,g.up es=es.map (·.map D.r)
 rsub:∀es l h,g.rsub es l h=(es.take h.toNat).drop l.toNat
 dsub:∀es lo n,g.dsub es lo n=(es.drop lo).take n
 all:∀l,g.all l=l.all id
 sle:∀a b,g.sle a b=(Op.bytesLess a.toList b.toList||a.toList==b.toList)
 slen:∀a,g.slen a=a.size
 hasI:∀l a,g.hasI l a=hasL l a
 putI:∀l a,g.putI l a=putL l a
 hasS:∀l a,g.hasS l a=hasL l a
 putS:∀l a,g.putS l a=putL l a
 imin:∀a b,g.imin a b=min a b
 imax:∀a b,g.imax a b=max a b
 fzc:∀j es,g.fzc j es=es.map (fzAt j)
 bstr:∀ns,g.bstr ns=strOfNums ns
def G.real:G :={
 wrap k n:=k.wrap n
 lt a b:=decide (a<b)
 le a b:=decide (a≤b)
 eq a b:=a==b
 quo a b:=a.tdiv b
 rem a b:=a.tmod b
 band k a b:=k.wrap (BitVec.ofInt k.bits a&&& BitVec.ofInt k.bits b).toNat
 bor k a b:=k.wrap (BitVec.ofInt k.bits a|||BitVec.ofInt k.bits b).toNat
 bxor k a b:=k.wrap (BitVec.ofInt k.bits a^^^BitVec.ofInt k.bits b).toNat
 shl k x y:=k.wrap (x*2^(min y.toNat k.bits))
 shr k x y:=x.fdiv (2^(min y.toNat k.bits))
 nat a:=a.toNat
 int n:=(n:Int)
 add a b:=a+b
 sub a b:=a-b
 mul a b:=a*b
 cat a b:=a++b
 seq a b:=a.toList==b.toList
 slt a b:=Op.bytesLess a.toList b.toList
 sub3 s l h:=s.extract l.toNat h.toNat
 byte s j:=((s.data.getD j.toNat 0).toNat:Int)
 llen es:=(es.length:Int)
 nadd a b:=a+b
 nsub a b:=a-b
 dlen es:=es.length
 dapp es n news:=es.take n++news
 dset es i e:=es.set i e
 drep j ds:=List.replicate j.toNat ds
 rd es lo n:=toRdss ((es.drop lo).take n)
 rda es:=toRdss es
 up es:=es.map (·.map D.r)
 rsub es l h:=(es.take h.toNat).drop l.toNat
 dsub es lo n:=(es.drop lo).take n
 all l:=l.all id
 sle a b:=Op.bytesLess a.toList b.toList||a.toList==b.toList
 slen a:=a.size
 hasI l a:=hasL l a
 putI l a:=putL l a
 hasS l a:=hasL l a
 putS l a:=putL l a
 imin a b:=min a b
 imax a b:=max a b
 fzc j es:=es.map (fzAt j)
 bstr ns:=strOfNums ns }
theorem G.real_ok:G.real.Ok:=⟨fun _ _=>rfl,fun _ _=>rfl,fun _ _=>rfl,fun _ _=>rfl,fun _ _=>rfl,fun _ _=>rfl,fun _ _ _=>rfl,fun _ _ _=>rfl,fun _ _ _=>rfl,fun _ _ _=>rfl,fun _ _ _=>rfl,fun _=>rfl,fun _=>rfl,fun _ _=>rfl,fun _ _=>rfl,fun _ _=>rfl,fun _ _=>rfl,fun _ _=>rfl,fun _ _=>rfl,fun _ _ _=>rfl,fun _ _=>rfl,fun _=>rfl,fun _ _=>rfl,fun _ _=>rfl,fun _=>rfl,fun _ _ _=>rfl,fun _ _ _=>rfl,fun _ _=>rfl,fun _ _ _=>rfl,fun _=>rfl,fun _=>rfl,fun _ _ _=>rfl,fun _ _ _=>rfl,fun _=>rfl,fun _ _=>rfl,fun _=>rfl,fun _ _=>rfl,fun _ _=>rfl,fun _ _=>rfl,fun _ _=>rfl,fun _ _=>rfl,fun _ _=>rfl,fun _ _=>rfl,fun _=>rfl⟩
def Sd:Option (Unit→Prop)→Prop
 |none=>True
 |some c=>c ()
abbrev Cn:=Option (Unit→Prop)
def gP:Cn→Cn→Cn
 |none,q=>q
 |p,none=>p
 |some p,some q=>some fun _=>p ()∧q ()
theorem aL {p q:Cn} (h:Sd (gP p q)):Sd p∧Sd q:=by
 cases p<;>cases q<;>simp_all [gP,Sd]
structure Si where
 c:Option (Unit→Prop)
 v:V
structure St2 where
 c:Option (Unit→Prop)
 v:V
 s:St
def rG (g:G) (op:BinOp) (k:IntKind) (a b:Int):Option (Option (Unit→Prop)×Value):=
 match op with
 |.add=>some (none,.int k (g.wrap k (g.add a b)))
 |.sub=>some (none,.int k (g.wrap k (g.sub a b)))
 |.mul=>some (none,.int k (g.wrap k (g.mul a b)))
 |.quo=>some (some (fun _=>b≠0),.int k (g.wrap k (g.quo a b)))
 |.rem=>some (some (fun _=>b≠0),.int k (g.rem a b))
 |.and=>some (none,.int k (g.band k a b))
 |.or=>some (none,.int k (g.bor k a b))
 |.xor=>some (none,.int k (g.bxor k a b))
 |.eql=>some (none,.bool (g.eq a b))
 |.neq=>some (none,.bool (!g.eq a b))
 |.lss=>some (none,.bool (g.lt a b))
 |.leq=>some (none,.bool (g.le a b))
 |.gtr=>some (none,.bool (g.lt b a))
 |.geq=>some (none,.bool (g.le b a))
 |_=>none
def rO (g:G) (op:BinOp) (a b:ByteArray):Option (Option (Unit→Prop)×Value):=
 match op with
 |.add=>some (some (fun _=>((a.size+b.size:Nat):Int)≤IntKind.i64.max),.string (g.cat a b))
 |.eql=>some (none,.bool (g.seq a b))
 |.neq=>some (none,.bool (!g.seq a b))
 |.lss=>some (none,.bool (g.slt a b))
 |.leq=>some (none,.bool (g.sle a b))
 |.gtr=>some (none,.bool (!g.sle a b))
 |.geq=>some (none,.bool (!g.slt a b))
 |_=>none
def rr (g:G) (op:BinOp) (kd:Kd) (a b:V):Option Si:=
 match kd,a,b with
 |.i,.c (.r (.v (.int k x))),.c (.r (.v (.int k' y)))=>
  if op=.shl then some ⟨some (fun _=>0≤y),.c (.r (.v (.int k (g.shl k x y))))⟩
  else if op=.shr then some ⟨some (fun _=>0≤y),.c (.r (.v (.int k (g.shr k x y))))⟩
  else if k=k' then(rG g op k x y).map fun p=>⟨p.1,V.v p.2⟩ else none
 |.s,.c (.r (.v (.string x))),.c (.r (.v (.string y)))=>(rO g op x y).map fun p=>⟨p.1,V.v p.2⟩
 |.b,.c (.r (.v (.bool x))),.c (.r (.v (.bool y)))=>if op=.eql then some ⟨none,V.b (x==y)⟩ else if op=.neq then some ⟨none,V.b (!(x==y))⟩ else none
 |_,_,_=>none
theorem ne {g:G} (hg:g.Ok) {op:BinOp} {kd:Kd} {a b:V} {p:Si} (h:rr g op kd a b=some p) (hc:Sd p.c):er op kd a b=some p.v:=by
 unfold rr at h
 split at h
 ·rename_i k x k' y
  split at h
  ·rename_i hs;subst hs;cases h
   have:¬y<0:=by have:0≤y:=hc;omega
   simp[er,this,hg.shl]
  ·rename_i hs1
   split at h
   ·rename_i hs;subst hs;cases h
    have:¬y<0:=by have:0≤y:=hc;omega
    simp[er,this,hg.shr]
   ·rename_i hs2
    split at h
    ·rename_i hk
     subst hk
     simp only[Option.map_eq_some_iff] at h
     obtain⟨⟨c,v⟩,h1,rfl⟩:=h
     simp only[er,hs1,hs2,if_false,if_true]
     simp only[Sd] at hc
     cases op<;>simp only[rG,Option.some.injEq,Prod.mk.injEq,reduceCtorEq] at h1<;>obtain⟨h2,rfl⟩:=h1<;>(try rw[←h2] at hc)<;>(try clear h2)<;>simp_all [jV,hg.wrap,hg.add,hg.sub,hg.mul,hg.quo,hg.rem,hg.band,hg.bor,hg.bxor,hg.eq,hg.lt,hg.le,bne]
    ·cases h
 ·rename_i x y
  simp only[Option.map_eq_some_iff] at h
  obtain⟨⟨c,v⟩,h1,rfl⟩:=h
  simp only[Sd] at hc
  simp only[er]
  cases op<;>simp only[rO,Option.some.injEq,Prod.mk.injEq,reduceCtorEq] at h1<;>obtain⟨h2,rfl⟩:=h1<;>(try rw[←h2] at hc)<;>(try clear h2)<;>simp_all [kx,hg.cat,hg.seq,hg.slt,hg.sle]
 ·rename_i x y
  split at h
  ·rename_i hs;cases h;simp[er,hs]
  ·rename_i hs1
   split at h
   ·rename_i hs;cases h;simp[er,hs]
   ·cases h
 ·cases h
def qw (g:G):Kd→Value→Value→Option Bool
 |.i,.int k a,.int k' b=>if k=k' then some (g.eq a b) else none
 |.b,.bool a,.bool b=>some (a==b)
 |.s,.string a,.string b=>some (g.seq a b)
 |_,_,_=>none
def om (g:G):List Kd→List C→List C→Option (List Bool)
 |[],[],[]=>some []
 |kd::ks,.r (.v x)::xs,.r (.v y)::ys=>match qw g kd x y with
  |some b=>match om g ks xs ys with
   |some c=>some (b::c)
   |none=>none
  |none=>none
 |_,_,_=>none
def re (g:G) (neg:Bool) (ks:List Kd):V→V→Option V
 |.g xs,.g ys=>match om g ks xs ys with
  |some bs=>match neg with
   |true=>some (V.b (!g.all bs))
   |false=>some (V.b (g.all bs))
  |none=>none
 |_,_=>none
theorem nJ {g:G} (hg:g.Ok) {neg:Bool} {ks:List Kd} {a b:V} {v:V} (h:re g neg ks a b=some v):lw neg ks a b=some v:=by
 have h1:∀kd x y,qw g kd x y=eqV kd x y:=fun kd x y=>by
  unfold qw eqV
  split<;>simp_all [hg.eq,hg.seq]
 have h2:∀ks xs ys bs,om g ks xs ys=some bs→eg ks xs ys=some (bs.all id):=by
  intro ks
  induction ks with
  |nil=>
   intro xs ys bs h
   cases xs<;>cases ys<;>simp_all [om,eg]
  |cons kd ks ih=>
   intro xs ys bs h
   unfold om at h
   split at h
   ·simp_all
   ·rename_i kd' ks' x xs' y ys' e1
    cases e1
    split at h
    ·rename_i b hb
     split at h
     ·rename_i c hc
      cases h
      rw[h1] at hb
      simp[eg,hb,ih _ _ _ hc]
     ·cases h
    ·cases h
   ·cases h
 unfold re at h
 split at h
 ·split at h
  ·rename_i bs hbs
   cases neg<;>simp at h<;>subst h<;>simp[lw,h2 _ _ _ _ hbs,hg.all]
  ·cases h
 ·cases h
inductive IaR where
 |own (c:Unit→Prop) (v:V)
 |ro (es:List (List R)) (j:Int)
def pE (g:G):Nat→Nat→Nat
 |0,m=>m
 |n,m=>g.nadd n m
theorem mR {g:G} (hg:g.Ok) (n m:Nat):pE g n m=n+m:=by unfold pE;split<;>simp[hg.nadd]
def gIa (g:G) (k:Nat):V→V→Option IaR
 |.c (.f id k' lo n),.c (.r (.v (.int _ j)))=>if k'=k then some (.own (fun _=>0≤j∧j<n) (.c (.p id k (pE g lo (g.nat j)) 0))) else none
 |.c (.r (.s k' es)),.c (.r (.v (.int _ j)))=>if k'=k then some (.ro es j) else none
 |_,_=>none
theorem pC {g:G} (hg:g.Ok) {k:Nat} {a b v:V} {c:Unit→Prop} (h:gIa g k a b=some (.own c v)) (hc:c ()):l8 k a b=some v:=by
 unfold gIa at h
 split at h
 ·split at h
  ·rename_i hk;subst hk;cases h;simp[l8,hc.1,hc.2,hg.nat,mR hg]
  ·cases h
 ·split at h
  ·cases h
  ·cases h
 ·cases h
theorem qJ {g:G} {k:Nat} {a b:V} {es:List (List R)} {j:Int} {e:List R} (h:gIa g k a b=some (.ro es j)) (h0:0≤j) (he:es[j.toNat]?=some e):l8 k a b=some (V.q e):=by
 unfold gIa at h
 split at h
 ·split at h
  ·cases h
  ·cases h
 ·split at h
  ·rename_i hk;subst hk;cases h;simp[l8,h0,he]
  ·cases h
 ·cases h
def qK (g:G):V→V→Option Si
 |.c (.r (.v (.string s))),.c (.r (.v (.int _ j)))=>some ⟨some (fun _=>0≤j∧j<s.size),.c (.r (.v (.int .u8 (g.byte s j))))⟩
 |_,_=>none
theorem nD {g:G} (hg:g.Ok) {a b:V} {p:Si} (h:qK g a b=some p) (hc:Sd p.c):k8 a b=some p.v:=by
 unfold qK at h
 split at h
 ·rename_i s kd j
  cases h
  simp only[Sd] at hc
  have hlt:j.toNat<s.data.size:=by have:=hc.2;have:s.data.size=s.size:=rfl;omega
  simp only[k8,hc.1,if_true]
  rw[Array.getElem?_eq_getElem hlt]
  simp[hg.byte,Array.getD_eq_getD_getElem?,Array.getElem?_eq_getElem hlt]
 ·cases h
def qA (g:G) (str:Bool):V→Option V
 |.c (.r (.s _ es))=>if str then none else some (V.i (g.llen es))
 |.c (.f _ _ _ n)=>if str then none else some (V.i (g.int n))
 |.c (.n _)=>if str then none else some (V.i 0)
 |.c (.r (.v (.string s)))=>if str then some (V.i (g.int (g.slen s))) else none
 |_=>none
theorem n6 {g:G} (hg:g.Ok) {str:Bool} {a:V}:qA g str a=lF str a:=by
 unfold qA lF
 split<;>simp_all [hg.int,hg.llen,hg.slen]
inductive SlR where
 |own (c:Unit→Prop) (v:V)
 |ro (c:Unit→Prop) (es:List (List R))
def gSl (g:G) (k:Nat) (l h:Option Int) (hn:Bool):V→Option SlR
 |.c (.f id k' l0 n)=>match l,(match hn with|true=>some (g.int n)|false=>h) with
  |some l,some h=>match Nat.beq k' k with
   |true=>some (.own (fun _=>0≤l∧l≤h∧h≤n) (.c (.f id k (pE g l0 (g.nat l)) (g.nsub (g.nat h) (g.nat l)))))
   |false=>none
  |_,_=>none
 |.c (.r (.s k' es))=>match l,(match hn with|true=>some (g.llen es)|false=>h) with
  |some l,some h=>match Nat.beq k' k with
   |true=>some (.ro (fun _=>0≤l∧l≤h∧h≤es.length) (g.rsub es l h))
   |false=>none
  |_,_=>none
 |_=>none
theorem pM {g:G} (hg:g.Ok) {k:Nat} {l h:Option Int} {hn:Bool} {a:V} {c:Unit→Prop} {v:V} (he:gSl g k l h hn a=some (.own c v)) (hc:c ()):lO k l h hn a=some v:=by
 unfold gSl at he
 split at he
 ·rename_i id k' l0 n
  split at he
  ·rename_i l' h' e2
   split at he
   ·rename_i hk
    have hk:=Nat.eq_of_beq_eq_true hk
    subst hk;cases he
    have e2:(if hn=true then some (n:Int) else h)=some h':=by
     rw[hg.int] at e2
     cases hn<;>simpa using e2
    simp only[lO]
    rw[e2]
    simp[hc.1,hc.2.1,hc.2.2,hg.nat,hg.nsub,mR hg]
   ·cases he
  ·cases he
 ·split at he
  ·split at he
   ·cases he
   ·cases he
  ·cases he
 ·cases he
theorem q9 {g:G} (hg:g.Ok) {k:Nat} {l h:Option Int} {hn:Bool} {a:V} {c:Unit→Prop} {r:List (List R)} (he:gSl g k l h hn a=some (.ro c r)) (hc:c ()):lO k l h hn a=some (.c (.r (.s k r))):=by
 unfold gSl at he
 split at he
 ·split at he
  ·split at he
   ·cases he
   ·cases he
  ·cases he
 ·rename_i k' es
  split at he
  ·rename_i l' h' e2
   split at he
   ·rename_i hk
    have hk:=Nat.eq_of_beq_eq_true hk
    subst hk;cases he
    have e2:(if hn=true then some (es.length:Int) else h)=some h':=by
     rw[hg.llen] at e2
     cases hn<;>simpa using e2
    simp only[lO]
    rw[e2]
    simp[hc.1,hc.2.1,hc.2.2,hg.rsub]
   ·cases he
  ·cases he
 ·cases he
def rx (g:G) (l h:Option Int) (hn:Bool):V→Option Si
 |.c (.r (.v (.string s)))=>match l,(match hn with|true=>some (g.int (g.slen s))|false=>h) with
  |some l,some h=>some ⟨some (fun _=>0≤l∧l≤h∧h≤s.size),.c (.r (.v (.string (g.sub3 s l h))))⟩
  |_,_=>none
 |_=>none
theorem nw {g:G} (hg:g.Ok) {l h:Option Int} {hn:Bool} {a:V} {p:Si} (he:rx g l h hn a=some p) (hc:Sd p.c):lv l h hn a=some p.v:=by
 unfold rx at he
 split at he
 ·rename_i s
  split at he
  ·rename_i l' h' e2
   cases he;simp only[Sd] at hc
   have e2:(if hn=true then some ((s.size:Nat):Int) else h)=some h':=by
    rw[hg.int,hg.slen] at e2
    cases hn<;>simpa using e2
   simp only[lv]
   rw[e2]
   simp[hc.1,hc.2.1,hc.2.2,hg.sub3]
  ·cases he
 ·cases he
def rf (g:G) (k:IntKind):V→Option V
 |.c (.r (.v (.int _ n)))=>some (.c (.r (.v (.int k (g.wrap k n)))))
 |_=>none
def qE (g:G):V→Option V
 |.c (.r (.v (.int k n)))=>some (.c (.r (.v (.int k (g.wrap k (g.sub 0 n))))))
 |_=>none
def gu (kk:Nat):Option Ent→Option (List (List D))
 |some (.arr k0 es)=>if k0=kk then some es else none
 |_=>none
theorem ce {kk:Nat} {e:Option Ent} {es:List (List D)} (h:gu kk e=some es):e=some (.arr kk es):=by
 unfold gu at h
 split at h
 ·split at h
  ·rename_i hk;subst hk;cases h;rfl
  ·cases h
 ·cases h
def gAbsorb (st:St):List C→Option (List D×St×Cn)
 |[]=>some ([],st,none)
 |.r x::r=>match gAbsorb st r with
  |some (ds,s,c)=>some (.r x::ds,s,c)
  |none=>none
 |.n k::r=>match gAbsorb st r with
  |some (ds,s,c)=>some (.o k []::ds,s,c)
  |none=>none
 |.f id k lo n::r=>match gu k (st.ent id) with
  |some es=>match gAbsorb (st.kill id) r with
   |some (ds,s,c)=>some (.o k es::ds,s,gP (some fun _=>lo=0∧n=es.length) c)
   |none=>none
  |none=>none
 |_=>none
theorem aG:∀{cs:List C} {st s:St} {ds:List D} {c:Cn},gAbsorb st cs=some (ds,s,c)→Sd c→ab st cs=some (ds,s)
 |[],st,s,ds,c,h,_=>by simp[gAbsorb] at h;simp[ab,h.1,h.2.1]
 |x::cs,st,s,ds,c,h,hc=>by
  cases x with
  |r x=>
   simp only[gAbsorb] at h
   split at h
   ·rename_i hh;cases h;simp[ab,aG hh hc]
   ·cases h
  |n k=>
   simp only[gAbsorb] at h
   split at h
   ·rename_i hh;cases h;simp[ab,aG hh hc]
   ·cases h
  |f id k lo n=>
   simp only[gAbsorb] at h
   split at h
   ·rename_i es hrow
    split at h
    ·rename_i hh;cases h
     obtain⟨⟨h1,h2⟩,h3⟩:=aL hc
     subst h1
     subst h2
     simp[ab,ce hrow,aG hh h3]
    ·cases h
   ·cases h
  |p id k i off=>simp[gAbsorb] at h
  |un=>simp[gAbsorb] at h
  |m id=>simp[gAbsorb] at h
def dq (k:Nat) (st:St):List V→Option (List (List D)×St×Cn)
 |[]=>some ([],st,none)
 |v::vs=>match be v with
  |some cs=>match Nat.beq cs.length k,Cs.solid cs with
   |true,true=>match gAbsorb st cs with
    |some (ds,st1,c)=>match dq k st1 vs with
     |some (es,s,c')=>some (ds::es,s,gP c c')
     |none=>none
    |none=>none
   |_,_=>none
  |none=>none
theorem df {k:Nat}:∀{vs:List V} {st s:St} {es:List (List D)} {c:Cn},dq k st vs=some (es,s,c)→Sd c→bi k st vs=some (es,s)
 |[],st,s,es,c,h,_=>by simp[dq] at h;simp[bi,h.1,h.2.1]
 |v::vs,st,s,es,c,h,hc=>by
  simp only[dq] at h
  split at h
  ·rename_i cs hcs
   split at h
   ·rename_i hb1 hb2
    split at h
    ·rename_i ds st1 c1 hab
     split at h
     ·rename_i hh;cases h
      simp only[bi,hcs,if_pos (And.intro (Nat.eq_of_beq_eq_true hb1) hb2),aG hab (aL hc).1,df hh (aL hc).2]
      rfl
     ·cases h
    ·cases h
   ·cases h
  ·cases h
def qC (g:G) (k:Nat) (mv:Bool) (st:St):V→Option (List (List D)×St×Cn)
 |.c (.n _)=>some ([],st,none)
 |.c (.r (.s k' es))=>if k'=k then some (g.up es,st,none) else none
 |.c (.f id k' lo n)=>match gu k (st.ent id) with
  |some es=>if k'=k then(match mv with
   |true=>some (es,st.kill id,some fun _=>lo=0∧n=es.length)
   |false=>some (g.dsub es lo n,st,some fun _=>lo+n≤es.length∧hR ((es.drop lo).take n)=true)) else none
  |none=>none
 |_=>none
theorem jM {g:G} (hg:g.Ok) {k:Nat} {mv:Bool} {st s:St} {v:V} {es:List (List D)} {c:Cn} (h:qC g k mv st v=some (es,s,c)) (hc:Sd c):de k mv st v=some (es,s):=by
 unfold qC at h
 split at h
 ·cases h;rfl
 ·split at h
  ·rename_i hk;cases h;simp[de,hk,hg.up]
  ·cases h
 ·split at h
  ·rename_i es0 hrow
   have hr:=ce hrow
   split at h
   ·rename_i hk
    split at h
    ·cases h
     obtain⟨h1,h2⟩:=hc
     simp[de,hr,hk,h1,h2]
    ·cases h
     obtain⟨h1,h2⟩:=hc
     simp[de,hr,hk,h1,h2,hg.dsub]
   ·cases h
  ·cases h
 ·cases h
structure NewR where
 c:Cn
 es:List (List D)
 n:Nat
 s:St
def qF (g:G) (k bytes:Nat) (mv:Bool) (sv xv:V) (st:St):Option NewR:=
 match qC g k mv st xv with
 |none=>none
 |some (news,st1,c)=>match sv with
  |.c (.n k')=>match Nat.beq k' k with
   |true=>some ⟨gP c (some fun _=>news.length≤maxLen∧news.length*bytes≤140737488355328),news,g.dlen news,st1⟩
   |false=>none
  |.c (.f id k' lo n)=>match gu k (st1.ent id) with
   |some es=>match Nat.beq k' k with
    |true=>some ⟨gP c (some fun _=>lo=0∧n≤es.length∧n+news.length≤maxLen∧(n+news.length)*bytes≤140737488355328),g.dapp es n news,g.nadd n (g.dlen news),st1.kill id⟩
    |false=>none
   |none=>none
  |_=>none
theorem ni {g:G} (hg:g.Ok) {nid k bytes:Nat} {mv:Bool} {sv xv:V} {st:St} {p:NewR} (h:qF g k bytes mv sv xv st=some p) (hc:Sd p.c):d6 nid k bytes mv sv xv st=some (.c (.f nid k 0 p.n),p.s.set nid (.arr k p.es)):=by
 unfold qF at h
 split at h
 ·cases h
 ·rename_i news st1 c hsrc
  split at h
  ·split at h
   ·rename_i hk
    have hk:=Nat.eq_of_beq_eq_true hk
    cases h;obtain⟨h1,h2,h3⟩:=aL hc;simp[d6,jM hg hsrc h1,h2,h3,hk,hg.dlen]
   ·cases h
  ·split at h
   ·rename_i es hent
    split at h
    ·rename_i hk
     have hk:=Nat.eq_of_beq_eq_true hk
     cases h
     obtain⟨h1,h2,h3,h4,h5⟩:=aL hc
     simp[d6,jM hg hsrc h1,ce hent,h2,h3,h4,h5,hk,hg.dlen,hg.dapp,hg.nadd]
    ·cases h
   ·cases h
  ·cases h
def gMk (g:G) (k bytes:Nat) (zs:List C) (l:V) (st:St):Option NewR:=
 match l,bd zs with
 |.c (.r (.v (.int _ j))),some ds=>match Nat.beq zs.length k with
  |true=>some ⟨some fun _=>0≤j∧(bytes:Int)*j≤281474976710656∧j≤9223372036854775807,g.drep j ds,g.nat j,st⟩
  |false=>none
 |_,_=>none
theorem ot {g:G} (hg:g.Ok) {nid k bytes:Nat} {zs:List C} {l:V} {st:St} {p:NewR} (h:gMk g k bytes zs l st=some p) (hc:Sd p.c):n5 nid k bytes zs l st=some (.c (.f nid k 0 p.n),p.s.set nid (.arr k p.es)):=by
 unfold gMk at h
 split at h
 ·rename_i kd j ds hds
  split at h
  ·rename_i hk
   have hk:=Nat.eq_of_beq_eq_true hk
   subst hk;cases h;simp only[Sd] at hc;simp[n5,hds,hc.1,hc.2.1,hc.2.2,hg.nat,hg.drep]
  ·cases h
 ·cases h
def qL (k:Nat) (xs:List O) (st:St):Option NewR:=
 match dq k st (xs.map st.ev) with
 |some (es,s,c)=>some ⟨c,es,xs.length,s⟩
 |none=>none
theorem nd {nid k:Nat} {xs:List O} {st:St} {p:NewR} (h:qL k xs st=some p) (hc:Sd p.c):f6 nid k xs st=some (.c (.f nid k 0 p.n),p.s.set nid (.arr k p.es)):=by
 unfold qL at h
 split at h
 ·rename_i hh;cases h;simp[f6,df hh hc]
 ·cases h
def qz (g:G) (k:Nat) (h:V) (st:St):V→Option NewR
 |.c (.f id k' 0 n)=>match st.ent id,dR h with
  |some (.arr k2 es),some m=>match Nat.beq k' k,Nat.beq k2 k with
   |true,true=>some ⟨some fun _=>0≤m∧m≤n∧g.nat m≤g.dlen es,g.dsub es 0 (g.nat m),g.dlen (g.dsub es 0 (g.nat m)),st.kill id⟩
   |_,_=>none
  |_,_=>none
 |_=>none
theorem nK {g:G} (hg:g.Ok) {nid k:Nat} {h0:V} {st:St} {v:V} {p:NewR} (h:qz g k h0 st v=some p) (hc:Sd p.c):jE nid k (dR h0) st v=some (.c (.f nid k 0 p.n),p.s.set nid (.arr k p.es)):=by
 unfold qz at h
 unfold jE
 split at h
 ·split at h
  ·rename_i hent hm
   split at h
   ·rename_i h1 h2
    cases h
    simp only[Sd,hg.nat,hg.dlen] at hc
    simp only[hent,hm,hg.nat,hg.dlen,hg.dsub,List.drop_zero,List.length_take,Nat.min_eq_left hc.2.2]
    rw[if_pos ⟨Nat.eq_of_beq_eq_true h1,Nat.eq_of_beq_eq_true h2,hc⟩]
   ·cases h
  ·cases h
 ·cases h
def qx (g:G) (st:St):I→Option (Nat×NewR)
 |.cut k x h=>match qz g k (st.ev h) st (st.ev x) with
  |some p=>some (k,p)
  |none=>none
 |.app k bytes mv s x=>match qF g k bytes mv (st.ev s) (st.ev x) st with
  |some p=>some (k,p)
  |none=>none
 |.mk k bytes zs l=>match gMk g k bytes zs (st.ev l) st with
  |some p=>some (k,p)
  |none=>none
 |.bsl k xs=>match qL k xs st with
  |some p=>some (k,p)
  |none=>none
 |_=>none
theorem nQ {g:G} (hg:g.Ok) {nid k:Nat} {st:St} {i:I} {p:NewR} (h:qx g st i=some (k,p)) (hc:Sd p.c):ex nid st i=some (.c (.f nid k 0 p.n),p.s.set nid (.arr k p.es)):=by
 unfold qx at h
 split at h
 ·split at h
  ·rename_i hh;cases h;simp only[ex];exact nK hg hh hc
  ·cases h
 ·split at h
  ·rename_i hh;cases h;simp only[ex];exact ni hg hh hc
  ·cases h
 ·split at h
  ·rename_i hh;cases h;simp only[ex];exact ot hg hh hc
  ·cases h
 ·split at h
  ·rename_i hh;cases h;simp only[ex];exact nd hh hc
  ·cases h
 ·cases h
def rg (g:G) (str:Bool) (xv kv:V) (st:St):Option V:=match str,xv,kv with
 |false,.c (.m id),.c (.r (.v (.int .i64 n)))=>match st.ent id with
  |some (.mi l)=>some (.c (.r (.v (.bool (g.hasI l n)))))
  |_=>none
 |true,.c (.m id),.c (.r (.v (.string n)))=>match st.ent id with
  |some (.ms l)=>some (.c (.r (.v (.bool (g.hasS l n)))))
  |_=>none
 |_,_,_=>none
def qY (g:G) (str:Bool) (xv kv:V) (st:St):Option St:=match str,xv,kv with
 |false,.c (.m id),.c (.r (.v (.int .i64 n)))=>match st.ent id with
  |some (.mi l)=>some (st.set id (.mi (g.putI l n)))
  |_=>none
 |true,.c (.m id),.c (.r (.v (.string n)))=>match st.ent id with
  |some (.ms l)=>some (st.set id (.ms (g.putS l n)))
  |_=>none
 |_,_,_=>none
theorem p8 {g:G} (hg:g.Ok) (str:Bool) (xv kv:V) (st:St):rg g str xv kv st=f7 str xv kv st:=by
 unfold rg f7;split<;>simp only[hg.hasI,hg.hasS]<;>rfl
theorem pX {g:G} (hg:g.Ok) (str:Bool) (xv kv:V) (st:St):qY g str xv kv st=ez str xv kv st:=by
 unfold qY ez;split<;>simp only[hg.putI,hg.putS]<;>rfl
def qU (g:G) (mx:Bool):V→V→Option V
 |.c (.r (.v (.int k x))),.c (.r (.v (.int _ y)))=>match mx with
  |true=>some (.c (.r (.v (.int k (g.imax x y)))))
  |false=>some (.c (.r (.v (.int k (g.imin x y)))))
 |_,_=>none
theorem pT {g:G} (hg:g.Ok) (mx:Bool) (a b:V):qU g mx a b=lu mx a b:=by
 unfold qU lu
 split
 ·cases mx<;>simp[hg.imax,hg.imin]
 ·rename_i hne
  split
  ·rename_i k x k' y;exact(hne _ _ _ _ rfl rfl).elim
  ·rfl
def gEx (g:G) (nid:Nat) (st:St):I→Option St2
 |.mv x=>some ⟨none,st.ev x,st⟩
 |.alloc cs=>some ⟨none,.c (.p nid cs.length 0 0),st.set nid (gj cs)⟩
 |.box x=>match be (st.ev x) with
  |some cs=>if Cs.solid cs=true then some ⟨none,.c (.p nid cs.length 0 0),st.set nid (gj cs)⟩ else none
  |none=>none
 |.ld agg k p=>(eT agg k (st.ev p) st).map fun v=>⟨none,v,st⟩
 |.st k p x=>(eL k (st.ev p) (st.ev x) st).map fun s=>⟨none,.c .un,s⟩
 |.fa off p=>(p6 off (st.ev p)).map fun v=>⟨none,v,st⟩
 |.fld agg off k x=>(mI agg off k (st.ev x)).map fun v=>⟨none,v,st⟩
 |.ia _ _ _=>none
 |.idx x i=>(qK g (st.ev x) (st.ev i)).map fun p=>⟨p.c,p.v,st⟩
 |.bin op kd x y=>(rr g op kd (st.ev x) (st.ev y)).map fun p=>⟨p.c,p.v,st⟩
 |.eqs neg ks x y=>(re g neg ks (st.ev x) (st.ev y)).map fun v=>⟨none,v,st⟩
 |.not x=>(mU (st.ev x)).map fun v=>⟨none,v,st⟩
 |.neg x=>(qE g (st.ev x)).map fun v=>⟨none,v,st⟩
 |.len str x=>(qA g str (st.ev x)).map fun v=>⟨none,v,st⟩
 |.app _ _ _ _ _=>none
 |.mk _ _ _ _=>none
 |.bsl _ _=>none
 |.bld zs parts=>(eC st zs parts).map fun r=>⟨none,.g r,st⟩
 |.sl _ _ _ _=>none
 |.ssl x lo hi=>(rx g (bc st 0 lo) (hi.bind fun z=>dR (st.ev z)) hi.isNone (st.ev x)).map fun p=>⟨p.c,p.v,st⟩
 |.cvt k x=>(rf g k (st.ev x)).map fun v=>⟨none,v,st⟩
 |.ext i x=>(my i (st.ev x)).map fun v=>⟨none,v,st⟩
 |.nilc x=>(j7 (st.ev x)).map fun v=>⟨none,v,st⟩
 |.pick c x y=>(ku (st.ev c) (st.ev x) (st.ev y)).map fun v=>⟨none,v,st⟩
 |.call _ _ _=>none
 |.mkm str=>some ⟨none,(iu nid str st).1,(iu nid str st).2⟩
 |.mlk str x k=>(rg g str (st.ev x) (st.ev k) st).map fun v=>⟨none,v,st⟩
 |.mup str x k=>(qY g str (st.ev x) (st.ev k) st).map fun s=>⟨none,.c .un,s⟩
 |.callm _ _ _ _=>none
 |.bslr _ _=>none
 |.cut _ _ _=>none
 |.clo true n xs=>(g5 n (xs.map st.ev)).map fun v=>⟨none,v,st⟩
 |.clo false n xs=>(jJ n (xs.map st.ev) st).map fun p=>⟨none,p.1,p.2⟩
 |.ifc t x=>(mB t (st.ev x)).map fun v=>⟨none,v,st⟩
 |.callv _ _ _=>none
 |.sst _ _ _=>none
 |.b2s _=>none
 |.mnx mx x y=>(qU g mx (st.ev x) (st.ev y)).map fun v=>⟨none,v,st⟩
theorem kA {g:G} (hg:g.Ok) {nid:Nat} {st:St} {i:I} {p:St2} (h:gEx g nid st i=some p) (hc:Sd p.c):ex nid st i=some (p.v,p.s):=by
 have one:∀{f:Option V},(f.map fun v=>(⟨none,v,st⟩:St2))=some p→(f.map fun v=>(v,st))=some (p.v,p.s):=by
  intro f hm
  simp only[Option.map_eq_some_iff] at hm ⊢
  obtain⟨v',h1,rfl⟩:=hm
  exact⟨v',h1,rfl⟩
 have two:∀{f:Option Si} {f':Option V},(∀q,f=some q→Sd q.c→f'=some q.v)→(f.map fun q=>(⟨q.c,q.v,st⟩:St2))=some p→(f'.map fun v=>(v,st))=some (p.v,p.s):=by
  intro f f' hf hm
  simp only[Option.map_eq_some_iff] at hm ⊢
  obtain⟨q,h1,rfl⟩:=hm
  exact⟨q.v,hf q h1 hc,rfl⟩
 cases i with
 |mv x=>cases h;rfl
 |alloc cs=>cases h;rfl
 |box x=>
  simp only[gEx] at h
  simp only[ex]
  split at h
  ·rename_i cs hcs
   split at h
   ·rename_i hs;cases h;simp[hcs,hs]
   ·cases h
  ·cases h
 |ld agg k q=>exact one h
 |st k q x=>
  simp only[gEx,Option.map_eq_some_iff] at h
  obtain⟨s,h1,rfl⟩:=h
  simp[ex,h1]
 |fa off q=>exact one h
 |fld agg off k x=>exact one h
 |ia k x j=>cases h
 |idx x j=>exact two (fun q h1 h2=>nD hg h1 h2) h
 |bin op kd x y=>exact two (fun q h1 h2=>ne hg h1 h2) h
 |eqs neg ks x y=>
  simp only[gEx,Option.map_eq_some_iff] at h
  obtain⟨v,h1,rfl⟩:=h
  simp[ex,nJ hg h1]
 |not x=>exact one h
 |neg x=>
  have:∀v,qE g v=lc v:=fun v=>by unfold qE lc;split<;>simp_all [hg.wrap,hg.sub]
  simp only[gEx] at h;rw[this] at h;exact one h
 |len str x=>simp only[gEx] at h;rw[n6 hg] at h;exact one h
 |app k bytes mv s x=>cases h
 |mk k bytes zs l=>cases h
 |bsl k xs=>cases h
 |bld zs parts=>
  simp only[gEx,Option.map_eq_some_iff] at h
  obtain⟨r,h1,rfl⟩:=h
  simp[ex,h1]
 |sl k x lo hi=>cases h
 |ssl x lo hi=>exact two (fun q h1 h2=>nw hg h1 h2) h
 |cvt k x=>
  have:∀v,rf g k v=kP k v:=fun v=>by unfold rf kP;split<;>simp_all [hg.wrap]
  simp only[gEx] at h;rw[this] at h;exact one h
 |ext i x=>exact one h
 |nilc x=>exact one h
 |pick c x y=>exact one h
 |call f own xs=>cases h
 |callm f own x xs=>cases h
 |bslr k xs=>cases h
 |cut k x oh=>cases h
 |clo live n xs=>
  cases live with
  |true=>exact one h
  |false=>
   simp only[gEx,Option.map_eq_some_iff] at h
   obtain⟨q,h1,rfl⟩:=h
   simp[ex,h1]
 |ifc t x=>exact one h
 |callv own x xs=>cases h
 |sst f x y=>cases h
 |b2s x=>cases h
 |mnx mx x y=>simp only[gEx] at h;rw[pT hg] at h;exact one h
 |mkm str=>cases h;rfl
 |mlk str x k=>simp only[gEx] at h;rw[p8 hg] at h;exact one h
 |mup str x k=>
  simp only[gEx] at h
  rw[pX hg] at h
  simp only[Option.map_eq_some_iff] at h
  obtain⟨s,h1,rfl⟩:=h
  simp[ex,h1]
theorem G.Ok.unique {g:G} (h:g.Ok):g=G.real:=by
 obtain⟨h1,h2,h3,h4,h5,h6,h7,h8,h9,h10,h11,h12,h13,h14,h15,h16,h17,h18,h19,h20,h21,h22,h23,h24,h25,h26,h27,h28,h29,h30,h31,h32,h33,h34,h35,h36,h37,h38,h39,h40,h41,h42,h43,h44⟩:=h
 obtain⟨wrap,lt,le,eq,quo,rem,band,bor,bxor,shl,shr,nat,int,add,sub,mul,cat,seq,slt,sub3,byte,llen,nadd,nsub,dlen,dapp,dset,drep,rd,rda,up,rsub,dsub,all,sle,slen,hasI,putI,hasS,putS,imin,imax,fzc,bstr⟩:=g
 unfold G.real
 congr<;>funext<;>simp_all
end Go.Vs
