/- Part of the proofs of this seat's laws: Vg. No condition. -/
import Derived.Test.YtdgkokanccedkaaGreatDoorVc
import Derived.ChangeArms
import Derived.Carry
import Derived.Test.YtdgkokanccedkaaGreatDoorVf
import Derived.Handed
import Derived.ProofKit
import Derived.OpenShut
import Derived.ChangeSame
import Derived.Test.YtdgkokanccedkaaGreatDoorVd
import Derived.Sort.OwnSorted
set_option linter.unusedVariables false
set_option linter.unusedSimpArgs false
set_option linter.unusedSectionVars false
namespace Go.Vs
open Go.RowKit
inductive Ty where
 |int (k:IntKind)
 |bool
 |str
 |sl (es:List Ty)
mutual
def R.is:Ty→R→Prop
 |.int k,.v x=>∃n,x=.int k n∧(Lit.int k n).wf=true
 |.bool,.v x=>∃b,x=.bool b
 |.str,.v x=>∃s,x=.string s∧s.size≤maxLen
 |.sl es,.s k rows=>k=es.length∧rows.length≤maxLen∧RRows.is es rows
 |_,_=>False
def Rs.is:List Ty→List R→Prop
 |[],[]=>True
 |t::ts,r::rs=>R.is t r∧Rs.is ts rs
 |_,_=>False
def RRows.is:List Ty→List (List R)→Prop
 |_,[]=>True
 |es,r::rs=>Rs.is es r∧RRows.is es rs
end
def xZ (P:Program) (q:TypeId→Option (List Ty)):List Field→Nat→Option (List Ty)
 |[],_=>some []
 |f::fs,o=>match q f.type with
  |some ts=>if f.offset=o∧ts.length=P.cellsOf f.type then(xZ P q fs (o+ts.length)).map (ts++ ·) else none
  |none=>none
def i5 (P:Program):Nat→TypeId→Option (List Ty)
 |0,_=>none
 |n+1,t=>match P.underlying t with
  |some .bool=>some [.bool]
  |some (.int k)=>some [.int k]
  |some .string=>some [.str]
  |some (.slice e)=>(i5 P n e).bind fun es=>if es.length=P.cellsOf e∧0<es.length then some [.sl es] else none
  |some (.struct fs)=>(xZ P (i5 P n) fs.toList 0).bind fun ts=>if ts.length=P.cellsOf t then some ts else none
  |_=>none
section
variable {w:World} {S:Nat→Prop}
theorem pL {b k:Nat}:∀(rows:List (List R)) (o:Nat),(∀i row,rows[i]?=some row→row.length=k∧aJ w S b (o+i*k) row)→bv w S b k o rows
 |[],_,_=>by simp[bv]
 |r::rows,o,h=>by
  simp only[bv]
  refine⟨by simpa using h 0 r (by simp),pL rows (o+k) fun i row hr=>?_⟩
  have:=h (i+1) row (by simpa using hr)
  rwa [show o+(i+1)*k=o+k+i*k by rw[Nat.succ_mul];omega] at this
theorem rM {b:Nat}:∀(rs:List R) (cs:List Value) (o:Nat),ed w S rs cs→(∀i y,cs[i]?=some y→w.cell? ⟨b,o+i,none⟩=some y)→aJ w S b o rs
 |[],_,_,_,_=>by simp[aJ]
 |r::rs,cs,o,h,hc=>by
  obtain⟨z,zs,rfl,h1,h2⟩:=h
  simp only[aJ]
  refine⟨⟨z,by simpa using hc 0 z (by simp),h1⟩,rM rs zs (o+1) h2 fun i y hy=>?_⟩
  have:=hc (i+1) y (by simpa using hy)
  rwa [show o+(i+1)=o+1+i by omega] at this
theorem mo {Q:Nat→List R→Prop}:∀n:Nat,(∀i,i<n→∃row,Q i row)→∃rows:List (List R),rows.length=n∧∀i row,rows[i]?=some row→Q i row
 |0,_=>⟨[],rfl,by simp⟩
 |n+1,h=>by
  obtain⟨rows,h1,h2⟩:=mo n (fun i hi=>h i (by omega))
  obtain⟨row,hr⟩:=h n (by omega)
  refine⟨rows++[row],by simp[h1],fun i r hi=>?_⟩
  by_cases hin:i<n
  ·rw[List.getElem?_append_left (by omega)] at hi;exact h2 i r hi
  ·rw[List.getElem?_append_right (by omega)] at hi
   have:i-rows.length=0:=by
    have:=(List.getElem?_eq_some_iff.1 hi).1
    simp at this
    omega
   rw[this] at hi
   simp at hi
   subst hi
   have:i=n:=by omega
   rw[this];exact hr
theorem rJ {es:List Ty}:∀(rows:List (List R)),(∀(i:Nat) (row:List R),rows[i]?=some row→Rs.is es row)→RRows.is es rows
 |[],_=>by simp[RRows.is]
 |r::rows,h=>by
  simp only[RRows.is]
  exact⟨h 0 r (by simp),rJ rows fun i row hr=>h (i+1) row (by simpa using hr)⟩
theorem Rs.is_length:∀(ts:List Ty) (rs:List R),Rs.is ts rs→rs.length=ts.length
 |[],[],_=>rfl
 |t::ts,r::rs,h=>by simp[Rs.is_length ts rs (by simp only[Rs.is] at h;exact h.2)]
 |[],_::_,h=>by simp[Rs.is] at h
 |_::_,[],h=>by simp[Rs.is] at h
theorem kY:∀(as bs:List R) (xs ys:List Value),ed w S as xs→ed w S bs ys→ed w S (as++bs) (xs++ys)
 |[],bs,xs,ys,h,h2=>by simp only[ed] at h;subst h;simpa using h2
 |a::as,bs,xs,ys,h,h2=>by
  obtain⟨z,zs,rfl,h1,h3⟩:=h
  exact⟨z,zs++ys,rfl,h1,kY as bs zs ys h3 h2⟩
theorem Rs.is_append:∀(ts us:List Ty) (as bs:List R),Rs.is ts as→Rs.is us bs→Rs.is (ts++us) (as++bs)
 |[],us,[],bs,_,h2=>by simpa using h2
 |t::ts,us,a::as,bs,h,h2=>by
  simp only[Rs.is,List.cons_append] at h ⊢
  exact⟨h.1,Rs.is_append ts us as bs h.2 h2⟩
 |[],_,_::_,_,h,_=>by simp[Rs.is] at h
 |_::_,_,[],_,h,_=>by simp[Rs.is] at h
theorem kH {α β:Type} {f:α→Option β}:∀{l:List α} {ys:List β},l.mapM f=some ys→ys.length=l.length∧∀(i:Nat) (x:α) (y:β),l[i]?=some x→ys[i]?=some y→f x=some y
 |[],ys,h=>by simp at h;subst h;simp
 |x::l,ys,h=>by
  rw[List.mapM_cons] at h
  cases hx:f x with
  |none=>simp[hx] at h
  |some z=>
   cases hl:l.mapM f with
   |none=>simp[hx,hl] at h
   |some zs=>
    simp[hx,hl] at h
    subst h
    obtain⟨h1,h2⟩:=kH hl
    refine⟨by simp[h1],fun i x' y' h3 h4=>?_⟩
    cases i with
    |zero=>simp at h3 h4;subst h3;subst h4;exact hx
    |succ i=>exact h2 i x' y' (by simpa using h3) (by simpa using h4)
theorem cells?_at {base:Nat} {a:Addr} {n:Nat} {cs:List Value} (h:w.cells? base a n=some cs):cs.length=n∧∀i y,cs[i]?=some y→w.cell? (a.add i)=some y:=by
 unfold World.cells? at h
 split at h
 ·obtain⟨h1,h2⟩:=kH h
  refine⟨by simpa using h1,fun i y hy=>?_⟩
  have hi:i<n:=by have:=(List.getElem?_eq_some_iff.1 hy).1;simp at h1;omega
  have:=h2 i i y (by simp[hi]) hy
  exact this
 ·cases h
end
end Go.Vs
namespace Go.Vs
open Go.RowKit
section
variable {H:Type} {enc:TypeId×Value→H} {P:Program} {w:World}
theorem qK:∀(fuel n:Nat) (t:TypeId) (cs:List Value) (x:DataW H×List MemPlace) (ts:List Ty),i5 P n t=some ts→DataW.trod enc P w 0 (fun _=>true) true fuel t cs=some x→(∀p∈x.2,p.block<w.heap.size)→
 ∃rs,Rs.is ts rs∧ed w (fun b=>b<w.heap.size) rs cs∧cs.length=ts.length
 |0,n,t,cs,x,ts,_,h,_=>by simp[DataW.trod] at h
 |fuel+1,0,t,cs,x,ts,hty,_,_=>by simp[i5] at hty
 |fuel+1,n+1,t,cs,x,ts,hty,h,hlt=>by
  simp only[i5] at hty
  split at hty
  ·rename_i hu
   cases hty
   unfold DataW.trod at h
   rw[hu] at h
   split at h<;>simp_all
   rename_i b
   exact⟨[.v (.bool b)],by simp[Rs.is,R.is],by simp[ed,aY,Value.oneCell']⟩
  ·rename_i k hu
   cases hty
   obtain⟨m,rfl,rfl,hw⟩:=DataW.trod_int hu h
   exact⟨[.v (.int k m)],by simp only[Rs.is,R.is];exact⟨⟨m,rfl,hw⟩,trivial⟩,by simp[ed,aY,Value.oneCell'],rfl⟩
  ·rename_i hu
   cases hty
   unfold DataW.trod at h
   rw[hu] at h
   split at h<;>simp_all
   rename_i s
   exact⟨[.v (.string s)],by simp[Rs.is,R.is];exact h.1,by simp[ed,aY,Value.oneCell']⟩
  ·rename_i e hu
   simp only[Option.bind_eq_some_iff] at hty
   obtain⟨es,he,hty⟩:=hty
   split at hty
   ·rename_i hk
    cases hty
    rcases DataW.trod_slice hu h with⟨rfl,rfl⟩|⟨a,len,cap,elems,rest,m,hm,rfl,rfl,hb,hl,hmx,hlen,hel,_,_⟩
    ·exact⟨[.s es.length []],by simp[Rs.is,R.is,RRows.is],by simp only[ed,aY];exact⟨_,[],rfl,⟨none,0,by simp,by simp,by unfold maxLen;omega,by simp⟩,rfl⟩,rfl⟩
    ·cases hm
     have hsp:0<len→a.spot=none:=fun hi=>by
      have h1:=hel 0 hi
      rw[List.getElem?_eq_getElem (by omega),Option.bind_eq_some_iff] at h1
      obtain⟨cs',hcs,hy⟩:=h1
      obtain⟨q1,q2⟩:=cells?_at hcs
      have h0:=q2 0 (cs'[0]'(by omega)) (by simp)
      have h1:=World.cell?_spot h0
      simpa [Addr.add] using h1
     have hrow:∀i,i<len→∃row,Rs.is es row∧row.length=es.length∧aJ w (fun b=>b<w.heap.size) a.block (a.off+i*es.length) row:=by
      intro i hi
      have h1:=hel i hi
      rw[List.getElem?_eq_getElem (by omega),Option.bind_eq_some_iff] at h1
      obtain⟨cs',hcs,hy⟩:=h1
      obtain⟨q1,q2⟩:=cells?_at hcs
      obtain⟨row,r1,r2,r3⟩:=qK fuel n e cs' _ es he hy (fun p hp=>hlt p (by
       simp only[List.mem_append,List.mem_flatMap]
       exact .inr ⟨elems[i],.inl (List.getElem_mem _),hp⟩))
      have hs:=hsp (by omega)
      refine⟨row,r1,Rs.is_length _ _ r1,rM row cs' _ r2 fun j y hj=>?_⟩
      have:=q2 j y hj
      rw[hk.1]
      obtain⟨b,off,spot⟩:=a
      simp only at hs
      subst hs
      have hadd:∀(b o m:Nat),(⟨b,o,none⟩:Addr).add m=⟨b,o+m,none⟩:=fun b o m=>by
       unfold Addr.add;split<;>simp_all
      rw[hadd,hadd] at this
      exact this
     obtain⟨rows,e1,e2⟩:=mo len hrow
     refine⟨[.s es.length rows],?_,?_,rfl⟩
     ·simp only[Rs.is,R.is]
      exact⟨⟨trivial,by omega,rJ rows fun i row hr=>(e2 i row hr).1⟩,trivial⟩
     ·simp only[ed,aY]
      refine⟨_,[],rfl,⟨some a,cap,by rw[e1],by omega,hmx,fun hne=>?_⟩,rfl⟩
      have hpos:0<len:=by
       rw[←e1];exact List.length_pos_iff.2 hne
      have hs:=hsp hpos
      refine⟨a.block,a.off,?_,?_,pL rows _ fun i row hr=>(e2 i row hr).2⟩
      ·obtain⟨b,off,spot⟩:=a;simp only at hs;subst hs;rfl
      ·refine hlt (.cell a.block a.off) ?_
       have hc:0<(elems.length+rest.length)*P.cellsOf e:=Nat.mul_pos (by omega) (by omega)
       refine List.mem_append_left _ (List.mem_map.2 ⟨0,List.mem_range.2 hc,by simp⟩)
   ·cases hty
  ·rename_i fs hu
   simp only[Option.bind_eq_some_iff] at hty
   obtain⟨us,hgo,hty⟩:=hty
   split at hty
   ·rename_i hsz
    cases hty
    unfold DataW.trod at h
    rw[hu] at h
    have h2:cs.length=P.cellsOf t∧∃xs,(fs.toList.mapM fun f=>DataW.trod enc P w 0 (fun _=>true) true fuel f.type ((cs.drop f.offset).take (P.cellsOf f.type)))=some xs∧x=(.agg (xs.map (·.1)),xs.flatMap (·.2)):=by
     split at h<;>simp_all
     obtain⟨_,a,ha,rfl⟩:=h
     exact⟨a,ha,rfl⟩
    obtain⟨hl,xs,hxs,rfl⟩:=h2
    have key:∀(fl:List Field) (o:Nat) (us:List Ty) (xs:List (DataW H×List MemPlace)),xZ P (i5 P n) fl o=some us→(fl.mapM fun f=>DataW.trod enc P w 0 (fun _=>true) true fuel f.type ((cs.drop f.offset).take (P.cellsOf f.type)))=some xs→(∀p∈xs.flatMap (·.2),p.block<w.heap.size)→o+us.length≤cs.length→
     ∃rs,Rs.is us rs∧ed w (fun b=>b<w.heap.size) rs ((cs.drop o).take us.length):=by
     intro fl
     induction fl with
     |nil=>
      intro o us xs hg _ _ _
      simp[xZ] at hg
      subst hg
      exact⟨[],by simp[Rs.is],by simp[ed]⟩
     |cons f fl ih=>
      intro o us xs hg hm hp hle
      simp only[xZ] at hg
      split at hg
      ·rename_i ts hts
       split at hg
       ·rename_i hc
        simp only[Option.map_eq_some_iff] at hg
        obtain⟨vs,hvs,rfl⟩:=hg
        rw[List.mapM_cons] at hm
        cases hf:DataW.trod enc P w 0 (fun _=>true) true fuel f.type ((cs.drop f.offset).take (P.cellsOf f.type)) with
        |none=>simp[hf] at hm
        |some y=>
         cases hr:(fl.mapM fun f=>DataW.trod enc P w 0 (fun _=>true) true fuel f.type ((cs.drop f.offset).take (P.cellsOf f.type))) with
         |none=>simp[hf,hr] at hm
         |some ys=>
          simp[hf,hr] at hm
          subst hm
          simp only[List.length_append] at hle
          obtain⟨r1,a1,a2,a3⟩:=qK fuel n f.type _ y ts hts hf (fun p hpp=>hp p (by simp[hpp]))
          obtain⟨r2,b1,b2⟩:=ih (o+ts.length) vs ys hvs hr (fun p hpp=>hp p (by rw[List.flatMap_cons];exact List.mem_append_right _ hpp)) (by omega)
          refine⟨r1++r2,Rs.is_append _ _ _ _ a1 b1,?_⟩
          have:(cs.drop o).take (ts++vs).length=(cs.drop f.offset).take (P.cellsOf f.type)++(cs.drop (o+ts.length)).take vs.length:=by
           rw[hc.1,←hc.2,List.length_append,List.take_add,List.drop_drop]
          rw[this]
          exact kY _ _ _ _ a2 b2
       ·cases hg
      ·cases hg
    obtain⟨rs,r1,r2⟩:=key fs.toList 0 _ xs hgo hxs hlt (by omega)
    refine⟨rs,r1,?_,by omega⟩
    rw[List.drop_zero,List.take_of_length_le (by omega)] at r2
    exact r2
   ·cases hty
  ·cases hty
end
end Go.Vs
namespace Go.Vs
open Go.RowKit Go.WideShapes Go.ChangeShapes
set_option linter.unusedVariables false
theorem pd {H:Type} {enc:TypeId×Value→H} {P:Program} {f:Func} {s:ChangeSpec} {apart fresh handsOn again:Bool} {W W':World} {args:Array Value} {v:Value} {ds gs:List (DataW H)} {before pa pv:List MemPlace}
 (hW:DataW.Whole enc P f.params.toList s.vars apart W args.toList ds gs before)
 (hres:∀(b:Nat) (sp:Nat→Bool) (hd:Bool),DataW.TrodAll enc P W' b sp hd f.resultTypes.toList (v.resultList f.resultTypes.size) (s.fn H (ds++gs)).results [])
 (hargs:∀sp:Nat→Bool,(∀p∈before,sp p.block=true)→DataW.TrodAll enc P W' 0 sp true f.params.toList args.toList (s.fn H (ds++gs)).args pa)
 (hvars:∀sp:Nat→Bool,(∀p∈before,sp p.block=true)→DataW.TrodVars enc P W' sp s.vars (s.fn H (ds++gs)).vars pv)
 (hps:before=pa++pv) (hb:Below W.heap.size W W')
 (hok:∀(j:Nat) (t:TypeId) (r:Value),f.resultTypes[j]?=some t→(v.resultList f.resultTypes.size)[j]?=some r→Value.okWide P W' .any 0 t r):
 s.post enc P f apart fresh handsOn again W args v W':=by
 have hlt:∀p∈before,p.block<W.heap.size:=fun p hp=>hW.lt p hp
 have hold:∀p∈before,(fun b=>decide (b<W.heap.size)) p.block=true:=fun p hp=>by simpa using hlt p hp
 refine⟨ds,gs,before,[],pa,pv,hW,hres _ _ _,hargs _ hold,hvars _ hold,World.keptBut_mono (fun p hp=>⟨hp,?_⟩) (hb.frame (· ∈before)),fun _=>?_⟩
 ·rw[hps,List.mem_append] at hp
  exact Or.inr hp
 ·obtain⟨_,_,_,_,_,hz,hn⟩:=hW
  refine⟨hok,_,_,([]++pa)++pv,⟨[]++pa,pv,trodAll_append (hargs _ (fun _ _=>rfl)) (hres _ _ _),hvars _ (fun _ _=>rfl),rfl,?_,?_⟩,?_⟩
  ·intro b off hp
   have hin:MemPlace.cell b off∈before:=by rw[hps];simpa using hp
   rw[hb.frozen (hlt _ hin)]
   exact hz b off hin
  ·intro ha
   have:=hn ha
   rw[hps] at this
   simpa using this
  ·intro p hp _
   rw[hps]
   simpa using hp
def sh (P:Program) (t:TypeId):Bool:=match P.underlying t with
 |some (.struct _)=>true
 |some (.array _ _)=>true
 |_=>false
def zU (P:Program) (n:Nat) (t:TypeId) (x:A):Prop:=
 ∃ts,i5 P n t=some ts∧match sh P t with
  |true=>∃rs,x=.g rs∧Rs.is ts rs
  |false=>∃r,x=.c r∧Rs.is ts [r]
def nt (P:Program) (n:Nat):List TypeId→List A→Prop
 |[],as=>as=[]
 |t::ts,as=>∃x xs,as=x::xs∧zU P n t x∧nt P n ts xs
section
variable {H:Type} {enc:TypeId×Value→H} {P:Program} {w:World}
theorem n6 {n base:Nat} {t:TypeId} {v:Value} (h:Value.okWide P w .any base t v) (ha:sh P t=false) (hq:(i5 P n t).isSome=true):v.cells=#[v]:=by
 cases v with
 |agg cs=>
  exfalso
  unfold Value.okWide at h
  unfold sh at ha
  cases n with
  |zero=>simp[i5] at hq
  |succ n=>
   simp only[i5] at hq
   split at h
   ·simp_all
   ·simp_all
   ·split at hq<;>simp_all [Cell.okWide,Cell.ok]
 |_=>rfl
theorem xf {n base:Nat} {t:TypeId} {v:Value} {d:DataW H} {ps:List MemPlace} (hty:(i5 P n t).isSome=true) (hv:Value.okWide P w .any base t v) (h:DataW.Trod enc P w 0 (fun _=>true) true t v d ps) (hlt:∀p∈ps,p.block<w.heap.size):
 ∃x,zU P n t x∧vg w (fun b=>b<w.heap.size) x v:=by
 obtain⟨fuel,hf⟩:=h
 obtain⟨ts,hts⟩:=Option.isSome_iff_exists.1 hty
 obtain⟨rs,h1,h2,h3⟩:=qK fuel n t _ _ ts hts hf hlt
 cases ha:sh P t with
 |true=>
  refine⟨.g rs,⟨ts,hts,by rw[ha];exact⟨rs,rfl,h1⟩⟩,?_⟩
  have:∃cs,v=.agg cs:=by
   unfold Value.okWide at hv
   unfold sh at ha
   split at hv
   ·obtain⟨cs,e,_⟩:=hv;exact⟨cs,e⟩
   ·obtain⟨cs,e,_⟩:=hv;exact⟨cs,e⟩
   ·split at ha<;>simp_all
  obtain⟨cs,rfl⟩:=this
  exact⟨cs.toList,by simp,by simpa [Value.cells] using h2⟩
 |false=>
  have hc:=n6 hv ha hty
  rw[hc] at h2
  cases rs with
  |nil=>simp[ed] at h2
  |cons r rs=>
   obtain⟨z,zs,e1,e2,e3⟩:=h2
   cases rs with
   |cons r2 rs=>obtain⟨z2,zs2,e4,_⟩:=e3;simp_all
   |nil=>
    simp at e1
    obtain⟨rfl,_⟩:=e1
    exact⟨.c r,⟨ts,hts,by rw[ha];exact⟨r,rfl,h1⟩⟩,e2⟩
theorem pp {n base:Nat}:∀(ts:List TypeId) (vs:List Value) (ds:List (DataW H)) (ps:List MemPlace),(∀t∈ts,(i5 P n t).isSome=true)→(∀(j:Nat) t v,ts[j]?=some t→vs[j]?=some v→Value.okWide P w .any base t v)→
 DataW.TrodAll enc P w 0 (fun _=>true) true ts vs ds ps→(∀p∈ps,p.block<w.heap.size)→∃as,nt P n ts as∧dR w (fun b=>b<w.heap.size) as vs
 |[],vs,ds,ps,_,_,h,_=>by
  cases vs with
  |nil=>exact⟨[],rfl,rfl⟩
  |cons v vs=>cases ds<;>simp[DataW.TrodAll] at h
 |t::ts,vs,ds,ps,hty,hok,h,hlt=>by
  obtain⟨v,vs',d,ds',p,q,rfl,rfl,rfl,h1,h2⟩:=trodAll_cons h
  obtain⟨x,a1,a2⟩:=xf (hty t (by simp)) (hok 0 t v rfl rfl) h1 (fun p hp=>hlt p (by simp[hp]))
  obtain⟨xs,b1,b2⟩:=pp ts vs' ds' q (fun t ht=>hty t (by simp[ht])) (fun j t v h1 h2=>hok (j+1) t v (by simpa using h1) (by simpa using h2)) h2 (fun p hp=>hlt p (by simp[hp]))
  exact⟨x::xs,⟨x,xs,rfl,a1,b1⟩,v,vs',rfl,a2,b2⟩
theorem jF {W W':World} (hl:laidOutB P=true) (hb:Below W.heap.size W W') (sp:Nat→Bool):∀(ts:List TypeId) (vs:List Value) (ds:List (DataW H)) (ps:List MemPlace),(∀t∈ts,P.readableRec t=true∧t<P.types.size)→(∀p∈ps,p.block<W.heap.size)→(∀p∈ps,sp p.block=true)→
 DataW.TrodAll enc P W 0 (fun _=>true) true ts vs ds ps→DataW.TrodAll enc P W' 0 sp true ts vs ds ps
 |[],vs,ds,ps,_,_,_,h=>by
  cases vs<;>cases ds<;>simp_all [DataW.TrodAll]
 |t::ts,vs,ds,ps,hr,hlt,hsp,h=>by
  obtain⟨v,vs',d,ds',p,q,rfl,rfl,rfl,h1,h2⟩:=trodAll_cons h
  have hh:=hr t (by simp)
  exact trodAll_cons_mk (WideElems.Trod_stays hl hh.1 hh.2 h1 (fun x hx=>hb.same (hlt x (by simp[hx]))) (fun x hx=>hsp x (by simp[hx])))
   (jF hl hb sp ts vs' ds' q (fun t ht=>hr t (by simp[ht])) (fun p hp=>hlt p (by simp[hp])) (fun p hp=>hsp p (by simp[hp])) h2)
theorem kz {f:FuncId} {fn:Func} {s:ChangeSpec} {apart fresh handsOn again:Bool} {n:Nat} {tb:TypeId} (hv0:s.vars=[]) (hres:fn.resultTypes=#[tb]) (htb:P.underlying tb=some .bool) (hlaid:laidOutB P=true)
 (hty:(fn.params.toList.all fun t=>(i5 P n t).isSome&&P.readableRec t&&decide (t<P.types.size))=true)
 (hs:∀ds:List (DataW H),ds.length=fn.params.toList.length→(s.fn H (ds++[])).results=[.lit (.bool true)]∧(s.fn H (ds++[])).args=ds∧(s.fn H (ds++[])).vars=[])
 (hlaw:∀as,nt P n fn.params.toList as→Fn P f as (.c (.r (.v (.bool true)))))
 (W:World) (hLd:Laid P W) (base:Nat) (args:Array Value) (ds gs:List (DataW H)) (before:List MemPlace)
 (hval:∀(j:Nat) t v,fn.params[j]?=some t→args[j]?=some v→Value.okWide P W .any base t v)
 (hW:DataW.Whole enc P fn.params.toList s.vars apart W args.toList ds gs before):
 Calls P f args W fun e W'=>∃v,e=.returned v∧s.post enc P fn apart fresh handsOn again W args v W':=by
 have hty':∀t∈fn.params.toList,(i5 P n t).isSome=true∧P.readableRec t=true∧t<P.types.size:=fun t ht=>by
  have:=List.all_eq_true.1 hty t ht
  simp only[Bool.and_eq_true,decide_eq_true_eq] at this
  exact⟨this.1.1,this.1.2,this.2⟩
 have hlt:∀p∈before,p.block<W.heap.size:=fun p hp=>hW.lt p hp
 have hW':=hW
 obtain⟨p,q,hA,hV,rfl,hfz,hnd⟩:=hW
 rw[hv0] at hV
 obtain⟨rfl,rfl⟩:gs=[]∧q=[]:=by
  cases gs<;>simp_all [DataW.TrodVars]
 have hlen:ds.length=fn.params.toList.length:=by
  have:∀(ts:List TypeId) (vs:List Value) (ds:List (DataW H)) (ps:List MemPlace),DataW.TrodAll enc P W 0 (fun _=>true) true ts vs ds ps→ds.length=ts.length:=by
   intro ts
   induction ts with
   |nil=>intro vs ds ps h;cases vs<;>cases ds<;>simp_all [DataW.TrodAll]
   |cons t ts ih=>
    intro vs ds ps h
    obtain⟨v,vs',d,ds',p,q,rfl,rfl,rfl,h1,h2⟩:=trodAll_cons h
    simp[ih _ _ _ h2]
  exact this _ _ _ _ hA
 obtain⟨as,h1,h2⟩:=pp fn.params.toList args.toList ds p (fun t ht=>(hty' t ht).1) (fun j t v hj hv=>hval j t v (by simpa using hj) (by simpa using hv)) hA (fun x hx=>hlt x (by simp[hx]))
 have hc:=hlaw as h1 W (fun b=>b<W.heap.size) args.toList (fun _ h=>h) h2 hLd
 refine hc.mono fun e W' ⟨y,F,S',he,hx,hl⟩=>?_
 subst he
 simp only[cF,cv,aY] at hx
 obtain⟨_,rfl,_⟩:=hx
 obtain⟨e1,e2,e3⟩:=hs ds hlen
 refine⟨_,rfl,pd (pa:=p) (pv:=[]) hW' (fun b sp hd=>?_) (fun sp hsp=>?_) (fun sp _=>?_) rfl hl.below (ok_one hres rfl (okWide_bool_mk htb _))⟩
 ·rw[hres,e1]
  exact trodAll_cons_mk (shut_bool htb _) trodAll_mk0
 ·rw[e2]
  exact jF hlaid hl.below sp _ _ _ _ (fun t ht=>(hty' t ht).2) (fun x hx=>hlt x (by simp[hx])) (fun x hx=>hsp x (by simp[hx])) hA
 ·rw[hv0,e3];rfl
end
end Go.Vs
namespace Go.Vs
open Go.RowKit
theorem ij {w:World} {S:Nat→Prop}:∀(xs vs:List Value),dR w S (xs.map fun x=>.c (.v x)) vs→vs=xs
 |[],vs,h=>by simpa [dR] using h
 |x::xs,vs,h=>by
  simp only[List.map_cons,dR] at h
  obtain⟨z,zs,h1,h2,h3⟩:=h
  simp only[vg,aY] at h2
  rw[h1,h2.1,ij xs zs h3]
end Go.Vs
namespace Go.Vs
open Go.RowKit Go.Sort Go.Proofs
def bOf (b:ByteArray):List UInt8:=b.data.toList
def sOf (l:List UInt8):ByteArray:=⟨l.toArray⟩
theorem uB (b:ByteArray):sOf (bOf b)=b:=rfl
theorem zc (l:List UInt8):bOf (sOf l)=l:=rfl
theorem rE {w:World} {S:Nat→Prop} {n:ByteArray} {xs:List Value} {F:List Nat} (h:ak w S [.r (.v (.string n))] xs F):xs=[.string n]∧F=[]:=by
 simp only[ak] at h
 obtain⟨y,ys,f1,f2,rfl,rfl,h1,rfl,rfl⟩:=h
 simp only[cv,aY] at h1
 obtain⟨rfl,rfl,_⟩:=h1
 exact⟨rfl,rfl⟩
theorem oQ {w:World} {S:Nat→Prop}:∀(l:List ByteArray) (xs:List Value) (F:List Nat),an w S 1 (l.map fun n=>[D.r (.v (.string n))]) xs F→xs=l.map Value.string∧F=[]
 |[],xs,F,h=>by simpa [an] using h
 |n::l,xs,F,h=>by
  simp only[List.map_cons,an] at h
  obtain⟨x1,x2,f1,f2,rfl,rfl,h1,h2⟩:=h
  obtain⟨rfl,rfl⟩:=rE h1.2
  obtain⟨rfl,rfl⟩:=oQ l x2 f2 h2
  simp
theorem j8 {w:World} {S:Nat→Prop}:∀(l:List ByteArray),an w S 1 (l.map fun n=>[D.r (.v (.string n))]) (l.map Value.string) []
 |[]=>by simp[an]
 |n::l=>by
  simp only[List.map_cons,an]
  exact⟨[.string n],l.map Value.string,[],[],rfl,rfl,⟨rfl,by simp only[ak];exact⟨_,_,[],[],rfl,rfl,by simp[cv,aY,Value.oneCell'],rfl,rfl⟩⟩,j8 l⟩
def jW (l:List ByteArray):List ByteArray:=((l.map bOf).mergeSort fun x y=>decide (x≤y)).map sOf
theorem zw (l:List ByteArray):(l.map bOf).map encStr=l.map Value.string:=by
 rw[List.map_map];rfl
theorem wN (l:List (List UInt8)):l.map encStr=(l.map sOf).map Value.string:=by
 rw[List.map_map];rfl
theorem v6 {P:Program} {f:FuncId} (l:List ByteArray) (hl:l.length<4611686018427387904)
 (h1:∀(blk cap:Nat) (w:World),Holds encStr w blk 0 (l.map bOf).toArray→blk<w.heap.size→Calls P f #[.slice (some ⟨blk,0,none⟩) (l.map bOf).length cap] w fun e w'=>e=.returned (.tuple #[])∧∃n os,w'=grow (putRow encStr (Sort.ahead w n) blk 0 ((l.map bOf).mergeSort fun x y=>decide (x≤y)).toArray) os)
 (h0:l=[]→∀w,Calls P f #[.slice none 0 0] w fun e w'=>e=.returned (.tuple #[])∧w'=w):
 FnM P f (.m (.o 1 (l.map fun n=>[D.r (.v (.string n))]))) [] (.u []) (.m (.o 1 ((jW l).map fun n=>[D.r (.v (.string n))]))):=by
 intro w S0 y0 hd vs F hS ha hv hF hlt _
 simp only[dR] at hv
 subst hv
 simp only[eG,cv] at ha
 obtain⟨ty,xs,fps,o1,o2,rfl⟩:=ha
 obtain⟨rfl,rfl⟩:=oQ l xs fps o2
 rw[List.append_nil] at hF hlt hS ⊢
 rcases o1.2 with⟨e0,e1⟩|⟨b,cap,cur,e1,_,e2,e3,e4,e5,e6⟩
 ·subst e0
  have hl0:l=[]:=List.length_eq_zero_iff.1 (by simpa using e1)
  subst hl0
  refine(h0 rfl w).mono ?_
  rintro e w' ⟨rfl,rfl⟩
  refine⟨_,[],[],fun _=>False,rfl,?_,?_,?_⟩
  ·simp[cF,dd]
  ·simp only[eG,cv,jW,List.map_nil,List.mergeSort_nil]
   exact⟨ty,[],[],o1,by simp[an],rfl⟩
  ·exact⟨rfl,rfl,rfl,Nat.le_refl _,fun _ _ _=>rfl,by simp,by simp,by simp⟩
 ·subst e1
  simp only[List.length_map] at e3 e6 ⊢
  have hb:b<w.heap.size:=(Array.getElem?_eq_some_iff.1 e2).1
  rw[Nat.mul_one] at e6
  have hlm:(l.map bOf).length=l.length:=List.length_map _
  have hH:=holds_of_block (ss:=l.map bOf) e2 (by rw[hlm,zw];exact e6)
  have hc:=h1 b cap w hH hb
  rw[hlm] at hc
  refine hc.mono ?_
  rintro e w' ⟨rfl,n,os,rfl⟩
  have hlen:((l.map bOf).mergeSort fun x y=>decide (x≤y)).length=(l.map bOf).length:=List.length_mergeSort _
  generalize hs:((l.map bOf).mergeSort fun x y=>decide (x≤y))=ts at hlen
  have hsr:jW l=ts.map sOf:=by unfold jW;rw[hs]
  obtain⟨g1,g2,g3,g4,g5⟩:=grownBy_sorted (w:=w) (g:=b) (n:=n) (os:=os) ts.toArray
  have ho:=ownsRow_sorted (w:=w) (base:=0) (g:=b) (cap:=cap) (n:=n) (e:=ty) (os:=os) (cur:=cur) (ss:=l.map bOf) (ts:=ts) hlen (Nat.zero_le _) e2 (by rw[hlm];exact e3) e4 e5
  rw[wN,hlm] at ho
  refine⟨_,[],[b],fun _=>False,rfl,?_,?_,?_⟩
  ·simp[cF,dd]
  ·simp only[eG,cv]
   rw[hsr]
   exact⟨ty,_,[],by simpa [hlen] using ho,j8 _,rfl⟩
  ·exact⟨g1,g2,g3,g4,fun k hk hne=>g5 k hk (fun e=>hne (by simp[Value.ownBlock] at e ⊢;omega)),by simp,fun k hk=>⟨.inl (by simpa [Value.ownBlock] using hk),Nat.lt_of_lt_of_le (by simp at hk;omega) g4,fun e=>e⟩,fun k hk=>hk.elim⟩
end Go.Vs
