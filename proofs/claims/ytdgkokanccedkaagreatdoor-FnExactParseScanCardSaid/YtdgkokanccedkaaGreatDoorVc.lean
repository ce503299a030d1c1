/- Part of the proofs of this seat's laws: Vc. No condition. -/
import Derived.Test.YtdgkokanccedkaaGreatDoorVb
import Derived.Lib.LaidTab
import Derived.Lib.ItoaNum
import Derived.Lib.AtoiErrMem
set_option linter.unusedVariables false
set_option linter.unusedSimpArgs false
set_option linter.unusedSectionVars false
namespace Go.Vs
open Go.RowKit
section
variable {φ:Nat→Value} {S:Nat→Prop} {fp:Nat→List Nat} {M:MS} {w0:World} {U:Nat→Prop} {N:Nat} {st st':St} {a:Act} {w w':World} {P:Program}
def r8:V→V→Option V
 |.c (.r (.v (.string s))),.c (.r (.v (.int _ j)))=>if 0≤j then(s.data[j.toNat]?).map fun b=>.c (.r (.v (.int .u8 b.toNat))) else none
 |_,_=>none
theorem vK {o:Oper} {t:TypeId} {x i:Operand} {ox oi:O} {nid:Nat} {v:V} (ho:o.op=.index t x i) (hx:aI x ox=true) (hi:aI i oi=true) (ht:P.underlying t=some .string)
 (h:SimX φ S fp M w0 U N st a w) (he:r8 (st.ev ox) (st.ev oi)=some v):Out P o M w0 U N nid st v a w:=by
 obtain⟨hv,_⟩:=h.ev hx
 obtain⟨hvi,_⟩:=h.ev hi
 unfold r8 at he
 split at he
 ·rename_i s kd j e1 e2
  rw[e1] at hv
  rw[e2] at hvi
  split at he
  ·rename_i h0
   simp only[Option.map_eq_some_iff] at he
   obtain⟨b,hb,rfl⟩:=he
   refine Out.pure h ?_ fS (dB rfl)
   have hb':s[j.toNat]?=some b:=by
    rw[←hb]
    rfl
   simp[execOp,ho,(bh hv).1,(bh hvi).1,Instr.index,asIntOf,run_underlying ht,h0,hb']
  ·cases he
 ·cases he
def rt (l h:Option Int) (hn:Bool):V→Option V
 |.c (.r (.v (.string s)))=>match l,(if hn then some (s.size:Int) else h) with
  |some l,some h=>if 0≤l∧l≤h∧h≤s.size then some (.c (.r (.v (.string (s.extract l.toNat h.toNat))))) else none
  |_,_=>none
 |_=>none
theorem ze {t:TypeId} (ht:P.underlying t=some .string) {s:ByteArray} {lo hi:Option Value} {l h:Int}
 (hlo:(lo=none∧l=0)∨∃kd,lo=some (.int kd l)) (hhi:(hi=none∧h=s.size)∨∃kd,hi=some (.int kd h)) (h0:0≤l) (h1:l≤h) (h2:h≤s.size):
 (Instr.sliceAt t (.string s) lo hi none).run P w=.ok (.string (s.extract l.toNat h.toNat)) w:=by
 have hh0:0≤h:=by omega
 have hlh:l≤((h.toNat:Nat):Int):=by omega
 rcases hlo with⟨rfl,rfl⟩|⟨kl,rfl⟩<;>rcases hhi with⟨rfl,rfl⟩|⟨kh,rfl⟩<;>
  simp_all [Instr.sliceAt,Instr.slice,run_underlying ht,Instr.sliceBounds,Instr.sliceBound,asIntOf]
theorem xS (h:SimX φ S fp M w0 U N st a w) {lo:Option Operand} {olo:Option O} (hlo:eA lo olo=true) {l:Int} (hb:cC st 0 olo=some l):(lo.map a.eval=none∧l=0)∨∃kd,lo.map a.eval=some (.int kd l):=by
 unfold eA at hlo
 split at hlo
 ·simp[cC] at hb;exact .inl ⟨rfl,hb.symm⟩
 ·rename_i z oz
  obtain⟨hz,_⟩:=h.ev hlo
  obtain⟨kd,hkd⟩:=gJ hb hz
  exact .inr ⟨kd,by simp[hkd]⟩
 ·cases hlo
theorem ye (h:SimX φ S fp M w0 U N st a w) {hi:Option Operand} {ohi:Option O} (hhi:eA hi ohi=true) {n:Nat} {hb:Int} (heq:(if ohi.isNone then some (n:Int) else(ohi.bind fun z=>g7 (st.ev z)))=some hb):(hi.map a.eval=none∧hb=n)∨∃kd,hi.map a.eval=some (.int kd hb):=by
 unfold eA at hhi
 split at hhi
 ·simp at heq;exact .inl ⟨rfl,heq.symm⟩
 ·rename_i z oz
  simp at heq
  obtain⟨hz,_⟩:=h.ev hhi
  obtain⟨kd,hkd⟩:=gJ heq hz
  exact .inr ⟨kd,by simp[hkd]⟩
 ·cases hhi
theorem uV {o:Oper} {t:TypeId} {x:Operand} {ox:O} {lo hi:Option Operand} {olo ohi:Option O} {nid:Nat} {v:V} (ho:o.op=.slice t x lo hi none) (hx:aI x ox=true) (hlo:eA lo olo=true) (hhi:eA hi ohi=true)
 (ht:P.underlying t=some .string) (h:SimX φ S fp M w0 U N st a w) (he:rt (cC st 0 olo) (ohi.bind fun z=>g7 (st.ev z)) ohi.isNone (st.ev ox)=some v):Out P o M w0 U N nid st v a w:=by
 obtain⟨hv,_⟩:=h.ev hx
 unfold rt at he
 split at he
 ·rename_i s e1
  split at he
  ·rename_i l hb hlq hhq
   split at he
   ·rename_i hc
    obtain⟨c0,c1,c2⟩:=hc
    cases he
    rw[e1] at hv
    refine Out.pure h ?_ fS (dB rfl)
    simp only[execOp,ho,(bh hv).1]
    rw[Sem.run_bind,show(none:Option Operand).map a.eval=none from rfl,ze ht (xS h hlo hlq) (ye h hhi hhq) c0 c1 c2]
    rfl
   ·cases he
  ·cases he
 ·cases he
def rQ (k:IntKind):V→Option V
 |.c (.r (.v (.int _ n)))=>some (.c (.r (.v (.int k (k.wrap n)))))
 |_=>none
def AS (P:Program) (s d:TypeId):Option IntKind:=match P.underlying s,P.underlying d with
 |some (.int _),some (.int k)=>some k
 |_,_=>none
theorem vZ {o:Oper} {s d:TypeId} {x:Operand} {ox:O} {k:IntKind} {nid:Nat} {v:V} (ho:o.op=.convert s d x) (hx:aI x ox=true) (ht:AS P s d=some k) (h:SimX φ S fp M w0 U N st a w) (he:rQ k (st.ev ox)=some v):Out P o M w0 U N nid st v a w:=by
 obtain⟨hv,_⟩:=h.ev hx
 unfold rQ at he
 split at he
 ·rename_i kd n e1
  rw[e1] at hv
  cases he
  unfold AS at ht
  split at ht
  ·rename_i k1 k2 hs hd
   cases ht
   refine Out.pure h ?_ fS (dB rfl)
   simp[execOp,ho,(bh hv).1,convert,run_underlying hs,run_underlying hd,Conv.intToInt]
  ·cases ht
 ·cases he
def uc (agg:Bool) (off k:Nat):V→Option V
 |.g cs=>if off+k≤cs.length then mkV agg ((cs.drop off).take k) else none
 |_=>none
def fieldAt (P:Program) (s:TypeId) (fld:Nat):Option (Nat×TypeId):=
 match P.underlying s with
 |some (.struct fs)=>match fs[fld]? with
  |some f=>some (f.offset,f.type)
  |none=>none
 |_=>none
theorem uW {o:Oper} {s ft:TypeId} {x:Operand} {ox:O} {fld off k nid:Nat} {agg:Bool} {v:V} (ho:o.op=.field s x fld) (hx:aI x ox=true) (hf:fieldAt P s fld=some (off,ft)) (h1:df P ft=some agg) (h2:agg=true→szT P ft=some k) (h3:agg=false→k=1)
 (h:SimX φ S fp M w0 U N st a w) (he:uc agg off k (st.ev ox)=some v):Out P o M w0 U N nid st v a w:=by
 obtain⟨hv,hu⟩:=h.ev hx
 unfold uc at he
 split at he
 ·rename_i cs e1
  rw[e1] at hv hu
  simp only[vRep,V.inU] at hv hu
  obtain⟨ys,hpv,hr⟩:=hv
  split at he
  ·rename_i hle
   have hyl:=aC _ _ hr
   have hr':=hP k _ _ (gY off _ _ hr)
   have hl':((ys.drop off).take k).length=k:=by simp[List.length_take,List.length_drop];omega
   unfold fieldAt at hf
   split at hf
   ·rename_i fs hus
    split at hf
    ·rename_i f hff
     cases hf
     rcases rv he hr' (rF k (sS f.offset hu)) with⟨ha,_,hvu,hvr⟩|⟨ha,y,hy,hvu,hvr⟩
     ·subst ha
      refine Out.pure h ?_ hvu hvr
      simp[execOp,ho,hpv,Instr.field,run_underlying hus,hff,asAgg,part,eJ h1,dp (h2 rfl)]
     ·subst ha
      have hk:=h3 rfl
      subst hk
      refine Out.pure h ?_ hvu hvr
      have hyy:ys[f.offset]?=some y:=by
       have:((ys.drop f.offset).take 1)[0]?=some y:=by rw[hy];rfl
       simpa using this
      simp[execOp,ho,hpv,Instr.field,run_underlying hus,hff,asAgg,part,eJ h1,hyy]
    ·cases hf
   ·cases hf
  ·cases he
 ·cases he
def jE (st:St) (cells:List C):List (Nat×Nat×O)→Option (List C)
 |[]=>some cells
 |(off,size,x)::r=>match cD (st.ev x) with
  |some cs=>if cs.length=size∧Cs.solid cs=true∧off+size≤cells.length then jE st (aZ cells off cs) r else none
  |none=>none
def qw (P:Program) (t:TypeId):Option (List (Nat×Nat)):=match P.underlying t with
 |some (.struct fields)=>fields.toList.mapM (fun f=>(P.info? f.type).map fun i=>(f.offset,i.size))
 |_=>none
def j9 (places:List (Nat×Nat)):List (Nat×Operand)→List (Nat×Nat×O)→Bool
 |[],[]=>true
 |(i,x)::r,(off,size,ox)::os=>(places[i]?==some (off,size))&&aI x ox&&j9 places r os
 |_,_=>false
theorem oG (h:SimX φ S fp M w0 U N st a w) {places:List (Nat×Nat)}:∀(ps:List (Nat×Operand)) (os:List (Nat×Nat×O)) (cells:Array Value) (cs r:List C),j9 places ps os=true→ar w S φ cs cells.toList→Cs.inU U cs→jE st cs os=some r→
 ∃z,Instr.fill (fun i=>places[i]?) cells (ps.map fun p=>(p.1,a.eval p.2))=some z∧ar w S φ r z.toList∧Cs.inU U r
 |[],[],cells,cs,r,_,hr,hu,hf=>by
  simp[jE] at hf
  subst hf
  exact⟨cells,rfl,hr,hu⟩
 |(i,x)::ps,(off,size,ox)::os,cells,cs,r,hb,hr,hu,hf=>by
  simp only[j9,Bool.and_eq_true,beq_iff_eq] at hb
  obtain⟨⟨hpl,hx⟩,hb'⟩:=hb
  simp only[jE] at hf
  split at hf
  ·rename_i vs hvs
   split at hf
   ·rename_i hc
    obtain⟨hl,hsol,hle⟩:=hc
    obtain⟨hv,huv⟩:=h.ev hx
    have hvr:=gq hvs hsol hv
    have hvl:=aC _ _ hvr
    have hcl:=aC _ _ hr
    have hsz:(a.eval x).cells.size=size:=by rw[←Array.length_toList];omega
    obtain⟨z,z1,z2,z3⟩:=oG h ps os (aZ cells.toList off (a.eval x).cells.toList).toArray (aZ cs off vs) r hb' (by simpa using kw _ _ _ _ off hr hvr) (g6 hu (kp hvs huv)) hf
    refine⟨z,?_,z2,z3⟩
    rw[List.map_cons,mr (place:=fun i=>places[i]?) (off:=off) (size:=size) hpl hsz (by rw[←Array.length_toList];omega)]
    exact z1
   ·cases hf
  ·cases hf
 |[],_::_,_,_,_,hb,_,_,_=>by simp[j9] at hb
 |_::_,[],_,_,_,hb,_,_,_=>by simp[j9] at hb
theorem vc {o:Oper} {t:TypeId} {parts:Array (Nat×Operand)} {os:List (Nat×Nat×O)} {places:List (Nat×Nat)} {zv:List Value} {zs r:List C} {nid:Nat} (ho:o.op=.build t parts) (hp:qw P t=some places) (hz:i6 P t=some zv) (hzc:il zv zs=true) (hb:j9 places parts.toList os=true)
 (h:SimX φ S fp M w0 U N st a w) (he:jE st zs os=some r):Out P o M w0 U N nid st (.g r) a w:=by
 cases hi:P.info? t with
 |none=>simp[i6,hi] at hz
 |some i=>
  cases hzz:i.zero with
  |none=>simp[i6,hi,hzz] at hz
  |some z=>
   simp[i6,hi,hzz] at hz
   subst hz
   obtain⟨hr,hu⟩:=fQ (w:=w) (S:=S) (φ:=φ) (U:=U) _ _ hzc
   obtain⟨z',z1,z2,z3⟩:=oG h _ _ _ _ _ hb hr hu he
   unfold qw at hp
   split at hp
   ·rename_i fields hus
    refine Out.pure h (y:=.agg z') ?_ (by simpa [V.inU] using z3) (by simp only[vRep];exact⟨z'.toList,by simp,z2⟩)
    simp only[execOp,ho]
    rw[Sem.run_bind,run_build w t _ z' ?_]
    ·rfl
    ·unfold Program.built
     rw[hi,hus]
     simp only[hzz,hp]
     rw[Array.toList_map]
     simpa using z1
   ·cases hp
def eqV:Kd→Value→Value→Option Bool
 |.i,.int k a,.int k' b=>if k=k' then some (a==b) else none
 |.b,.bool a,.bool b=>some (a==b)
 |.s,.string a,.string b=>some (a.toList==b.toList)
 |_,_,_=>none
def iO:List Kd→List C→List C→Option Bool
 |[],[],[]=>some true
 |kd::ks,.r (.v x)::xs,.r (.v y)::ys=>match eqV kd x y,iO ks xs ys with
  |some b,some c=>some (b&&c)
  |_,_=>none
 |_,_,_=>none
def sJ (neg:Bool) (ks:List Kd):V→V→Option V
 |.g xs,.g ys=>(iO ks xs ys).map fun b=>V.b (if neg then !b else b)
 |_,_=>none
def gw (P:Program) (sub:TypeId→Option (List Kd)):Nat→List Field→Option (List Kd)
 |_,[]=>some []
 |n,f::fs=>if f.name≠ "_" ∧f.offset=n then
   match P.underlying f.type with
   |some (.int _)=>(gw P sub (n+1) fs).map (.i:: ·)
   |some .bool=>(gw P sub (n+1) fs).map (.b:: ·)
   |some .string=>(gw P sub (n+1) fs).map (.s:: ·)
   |_=>match sub f.type with
    |some ks=>(gw P sub (n+ks.length) fs).map (ks++ ·)
    |none=>none
  else none
theorem sM:∀(ks1 ks2:List Kd) (cx cy:List C) (b:Bool),iO (ks1++ks2) cx cy=some b→∃x1 x2 y1 y2 b1 b2,cx=x1++x2∧cy=y1++y2∧x1.length=ks1.length∧y1.length=ks1.length∧iO ks1 x1 y1=some b1∧iO ks2 x2 y2=some b2∧b=(b1&&b2)
 |[],ks2,cx,cy,b,h=>⟨[],cx,[],cy,true,b,rfl,rfl,rfl,rfl,by simp[iO],h,by simp⟩
 |k::ks1,ks2,cx,cy,b,h=>by
  simp only[List.cons_append] at h
  unfold iO at h
  split at h
  ·simp_all
  ·rename_i kd ks x xs y ys e1
   cases e1
   split at h
   ·rename_i b1 b2 q1 q2
    cases h
    obtain⟨x1,x2,y1,y2,c1,c2,r1,r2,r3,r4,r5,r6,r7⟩:=sM ks1 ks2 xs ys b2 q2
    subst r1;subst r2
    exact⟨.r (.v x)::x1,x2,.r (.v y)::y1,y2,b1&&c1,c2,rfl,rfl,by simp[r3],by simp[r4],by simp[iO,q1,r5],r6,by rw[r7,Bool.and_assoc]⟩
   ·cases h
  ·cases h
theorem iF:∀(c1 c2:List C) (ys:List Value),ar w S φ (c1++c2) ys→ar w S φ c1 (ys.take c1.length)∧ar w S φ c2 (ys.drop c1.length)
 |[],c2,ys,h=>by simpa [ar] using h
 |c::c1,c2,ys,h=>by
  obtain⟨z,zs,rfl,hz,hzs⟩:=h
  obtain⟨h1,h2⟩:=iF c1 c2 zs hzs
  exact⟨⟨z,zs.take c1.length,by simp,hz,h1⟩,by simpa using h2⟩
def xE (P:Program) (w:World) (S:Nat→Prop) (φ:Nat→Value) (d:Nat) (sub:TypeId→Option (List Kd)):Prop:=
 ∀t ks,sub t=some ks→df P t=some true∧szT P t=some ks.length∧∀(xs ys:Array Value) (cx cy:List C) (b:Bool),ar w S φ cx xs.toList→ar w S φ cy ys.toList→iO ks cx cy=some b→(Op.equalIn (d+1) t (.agg xs) (.agg ys)).run P w=.ok b w
theorem fH (d:Nat) {sub:TypeId→Option (List Kd)} (hsub:xE P w S φ d sub):∀(fs:List Field) (n:Nat) (ks:List Kd) (xs ys:Array Value) (b:Bool),gw P sub n fs=some ks→
 (∀(cx cy:List C),ar w S φ cx (xs.toList.drop n)→ar w S φ cy (ys.toList.drop n)→iO ks cx cy=some b→(Op.eqFields (d+1) xs ys fs).run P w=.ok b w)
 |[],n,ks,xs,ys,b,hp,cx,cy,h1,h2,he=>by
  simp[gw] at hp
  subst hp
  cases cx<;>cases cy<;>simp[iO] at he
  subst he
  simp[Op.eqFields]
 |f::fs,n,ks,xs,ys,b,hp,cx,cy,h1,h2,he=>by
  simp only[gw] at hp
  split at hp
  ·rename_i hc
   obtain⟨hname,hoff⟩:=hc
   have de:∀(kd:Kd) (ks':List Kd),ks=kd::ks'→gw P sub (n+1) fs=some ks'→df P f.type=some false→
    (∀x y c,eqV kd x y=some c→(Op.equalIn (d+1) f.type x y).run P w=.ok c w)→(Op.eqFields (d+1) xs ys (f::fs)).run P w=.ok b w:=by
    intro kd ks' hks hp' hag heq
    subst hks
    cases cx with
    |nil=>simp[iO] at he
    |cons c1 cx=>
     cases cy with
     |nil=>cases c1<;>simp[iO] at he
     |cons c2 cy=>
      obtain⟨x,xr,ex,hx,hxr⟩:=h1
      obtain⟨y,yr,ey,hy,hyr⟩:=h2
      unfold iO at he
      split at he<;>first|(rename_i heq1 _ _;cases heq1;done)|skip
      all_goals try(cases he;done)
      rename_i kd0 ks0 x0 xs0 y0 ys0 hk0 hx0 hy0
      cases hk0;cases hx0;cases hy0
      simp only[av,aY] at hx hy
      obtain⟨rfl,_⟩:=hx
      obtain⟨rfl,_⟩:=hy
      split at he
      ·rename_i b1 b2 q1 q2
       cases he
       have gx:xs[f.offset]?=some x:=by
        have:(xs.toList.drop n)[0]?=some x:=by rw[ex];rfl
        rw[hoff];simpa using this
       have gy:ys[f.offset]?=some y:=by
        have:(ys.toList.drop n)[0]?=some y:=by rw[ey];rfl
        rw[hoff];simpa using this
       have dx:xs.toList.drop (n+1)=xr:=by rw[←List.drop_drop,ex];rfl
       have dy:ys.toList.drop (n+1)=yr:=by rw[←List.drop_drop,ey];rfl
       have ih:=fH d hsub fs (n+1) ks' xs ys b2 hp' cx cy (by rw[dx];exact hxr) (by rw[dy];exact hyr) q2
       simp only[Op.eqFields,hname,ne_eq,not_false_eq_true,if_true,Sem.run_bind,part,eJ hag,Result.andThen_ok,Bool.false_eq_true,if_false,gx,gy,Sem.run_pure,heq _ _ _ q1]
       cases b1<;>simp[ih]
      ·cases he
   split at hp
   ·rename_i k hu
    simp only[Option.map_eq_some_iff] at hp
    obtain⟨ks',hp',rfl⟩:=hp
    refine de .i ks' rfl hp' (by simp[df,hu]) (fun x y c hq=>?_)
    unfold eqV at hq
    split at hq<;>first|(rename_i hk;cases hk;done)|skip
    all_goals try(cases hq;done)
    split at hq
    ·rename_i hkk;subst hkk;cases hq;exact run_equalIn_int w d f.type _ _ _ _ hu
    ·cases hq
   ·rename_i hu
    simp only[Option.map_eq_some_iff] at hp
    obtain⟨ks',hp',rfl⟩:=hp
    refine de .b ks' rfl hp' (by simp[df,hu]) (fun x y c hq=>?_)
    unfold eqV at hq
    split at hq<;>first|(rename_i hk;cases hk;done)|skip
    all_goals try(cases hq;done)
    cases hq
    exact run_equalIn_bool' w d f.type _ _ hu
   ·rename_i hu
    simp only[Option.map_eq_some_iff] at hp
    obtain⟨ks',hp',rfl⟩:=hp
    refine de .s ks' rfl hp' (by simp[df,hu]) (fun x y c hq=>?_)
    unfold eqV at hq
    split at hq<;>first|(rename_i hk;cases hk;done)|skip
    all_goals try(cases hq;done)
    cases hq
    exact run_equalIn_string w d f.type _ _ hu
   ·split at hp
    ·rename_i ks1 hs1
     simp only[Option.map_eq_some_iff] at hp
     obtain⟨ks',hp',rfl⟩:=hp
     obtain⟨hag,hsz,heq⟩:=hsub _ _ hs1
     obtain⟨x1,x2,y1,y2,b1,b2,rfl,rfl,l1,l2,q1,q2,rfl⟩:=sM _ _ _ _ _ he
     obtain⟨hx1,hx2⟩:=iF _ _ _ h1
     obtain⟨hy1,hy2⟩:=iF _ _ _ h2
     rw[l1] at hx1 hx2
     rw[l2] at hy1 hy2
     have ex:∀zs:Array Value,(zs.extract n (n+ks1.length)).toList=(zs.toList.drop n).take ks1.length:=fun zs=>by
      rw[Array.toList_extract,List.extract_eq_take_drop]
      congr 1
      omega
     have e1:=heq (xs.extract n (n+ks1.length)) (ys.extract n (n+ks1.length)) x1 y1 b1 (by rw[ex];exact hx1) (by rw[ex];exact hy1) q1
     have ih:=fH d hsub fs (n+ks1.length) ks' xs ys b2 hp' x2 y2 (by rw[←List.drop_drop];exact hx2) (by rw[←List.drop_drop];exact hy2) q2
     simp only[Op.eqFields,hname,ne_eq,not_false_eq_true,if_true,Sem.run_bind,part,eJ hag,dp hsz,Result.andThen_ok,hoff,Sem.run_pure,e1]
     cases b1<;>simp[ih]
    ·cases hp
  ·cases hp
def zL:TypeId→Option (List Kd):=fun _=>none
def Ai (P:Program) (t:TypeId):Option (List Kd):=
 match P.underlying t with
 |some (.struct fs)=>match gw P zL 0 fs.toList with
  |some ks=>if P.stoodInHeld t=false∧df P t=some true∧szT P t=some ks.length then some ks else none
  |none=>none
 |_=>none
theorem w9 (d:Nat):xE P w S φ d zL:=fun t ks h=>by cases h
theorem yN (d:Nat):xE P w S φ (d+1) (Ai P):=fun t ks h=>by
 unfold Ai at h
 split at h
 ·rename_i fs hu
  split at h
  ·rename_i ks' hp
   split at h
   ·rename_i hc
    cases h
    refine⟨hc.2.1,hc.2.2,fun xs ys cx cy b h1 h2 he=>?_⟩
    have hfo:P.fieldsOf t=fs:=by simp[Program.fieldsOf,hu]
    rw[run_equalIn_struct w (d+1) t _ _ (by rw[hfo];exact hu) hc.1,hfo]
    exact fH d (w9 d) fs.toList 0 ks xs ys b hp cx cy (by simpa using h1) (by simpa using h2) he
   ·cases h
  ·cases h
 ·cases h
def Ag (P:Program) (t:TypeId):Option (List Kd):=
 match P.underlying t with
 |some (.struct fs)=>if P.stoodInHeld t=false∧P.eqGuardType P.depth t=false then gw P (Ai P) 0 fs.toList else none
 |_=>none
theorem uT {o:Oper} {op:BinOp} {neg:Bool} {t yt:TypeId} {x y:Operand} {ox oy:O} {ks:List Kd} {nid:Nat} {v:V} (ho:o.op=.binOp op t x y yt) (hop:(op=.eql∧neg=false)∨(op=.neq∧neg=true)) (hx:aI x ox=true) (hy:aI y oy=true)
 (ht:Ag P t=some ks) (h:SimX φ S fp M w0 U N st a w) (he:sJ neg ks (st.ev ox) (st.ev oy)=some v):Out P o M w0 U N nid st v a w:=by
 obtain⟨hvx,_⟩:=h.ev hx
 obtain⟨hvy,_⟩:=h.ev hy
 unfold sJ at he
 split at he
 ·rename_i cx cy e1 e2
  rw[e1] at hvx
  rw[e2] at hvy
  simp only[vRep] at hvx hvy
  obtain⟨xs,hxv,hxr⟩:=hvx
  obtain⟨ys,hyv,hyr⟩:=hvy
  simp only[Option.map_eq_some_iff] at he
  obtain⟨b,hb,rfl⟩:=he
  unfold Ag at ht
  split at ht
  ·rename_i fs hu
   split at ht
   ·rename_i hc
    obtain⟨hst,hgt⟩:=hc
    have hfo:P.fieldsOf t=fs:=by simp[Program.fieldsOf,hu]
    have hrun:=fH (P:=P) (w:=w) 9998 (yN 9997) fs.toList 0 ks xs.toArray ys.toArray b ht cx cy (by simpa using hxr) (by simpa using hyr) hb
    have hr2:(Op.equalIn 10000 t (.agg xs.toArray) (.agg ys.toArray)).run P w=.ok b w:=by
     rw[show(10000:Nat)=9999+1 from rfl,run_equalIn_struct w 9999 t _ _ (by rw[hfo];exact hu) hst,hfo]
     exact hrun
    refine Out.pure h ?_ fS (dB rfl)
    simp only[execOp,ho,hxv,hyv]
    rw[Sem.run_bind,Sem.run_bind,run_eqGuard_agg w op t x y _ _ hgt]
    rcases hop with⟨rfl,rfl⟩|⟨rfl,rfl⟩
    ·simp only[Result.andThen_ok]
     rw[run_eql_struct,hr2]
     rfl
    ·simp only[Result.andThen_ok]
     rw[run_neq_struct,hr2]
     rfl
   ·cases ht
  ·cases ht
 ·cases he
end
end Go.Vs
namespace Go.Vs
open Go.RowKit
inductive X where
 |c (d:D)
 |g (ds:List D)
 |u (xs:List X)
 |p (ds:List D)
inductive A where
 |c (x:R)
 |g (xs:List R)
 |q (xs:List R)
mutual
def j6:D→R
 |.r x=>x
 |.o k es=>.s k (toRdss es)
def ee:List D→List R
 |[]=>[]
 |d::ds=>j6 d::ee ds
def toRdss:List (List D)→List (List R)
 |[]=>[]
 |e::es=>ee e::toRdss es
end
theorem lG (ds:List D):ee ds=ds.map j6:=by induction ds<;>simp_all [ee]
theorem kq (es:List (List D)):toRdss es=es.map (·.map j6):=by induction es<;>simp_all [toRdss,lG]
def A4 (w:World) (S:Nat→Prop) (ds:List D) (y:Value) (F:List Nat):Prop:=
 ∃b cap ty xs fps,y=.pointer (some ⟨b,0,none⟩)∧w.ownsRow 0 ty ds.length (.slice (some ⟨b,0,none⟩) 1 cap) 1 xs∧ak w S ds xs fps∧F=b::fps
mutual
def cF (w:World) (S:Nat→Prop):X→Value→List Nat→Prop
 |.c d,y,F=>cv w S d y F
 |.g ds,y,F=>∃ys,y=.agg ys.toArray∧ak w S ds ys F
 |.u xs,y,F=>∃ys,y=.tuple ys.toArray∧dd w S xs ys F
 |.p ds,y,F=>A4 w S ds y F
def dd (w:World) (S:Nat→Prop):List X→List Value→List Nat→Prop
 |[],ys,F=>ys=[]∧F=[]
 |x::xs,ys,F=>∃z zs f1 f2,ys=z::zs∧F=f1++f2∧cF w S x z f1∧dd w S xs zs f2
end
def ed (w:World) (S:Nat→Prop):List R→List Value→Prop
 |[],ys=>ys=[]
 |x::xs,ys=>∃z zs,ys=z::zs∧aY w S x z∧ed w S xs zs
def vg (w:World) (S:Nat→Prop):A→Value→Prop
 |.c x,y=>aY w S x y
 |.g xs,y=>∃ys,y=.agg ys.toArray∧ed w S xs ys
 |.q cs,y=>∃b o,y=.pointer (some ⟨b,o,none⟩)∧(cs≠[]→S b)∧aJ w S b o cs
def dR (w:World) (S:Nat→Prop):List A→List Value→Prop
 |[],ys=>ys=[]
 |x::xs,ys=>∃z zs,ys=z::zs∧vg w S x z∧dR w S xs zs
structure Left (w w':World) (F:List Nat) (S':Nat→Prop):Prop where
 below:Below w.heap.size w w'
 nodup:F.Nodup
 own:∀b∈F,w.heap.size≤b∧b<w'.heap.size∧¬S' b
 ro:∀b,S' b→w.heap.size≤b∧b<w'.heap.size
def tabs:List (String×IntKind×List Int):=[("internal/strconv.uint64pow10",.u64,Lib.pow10Tab)]
def celv:List (String×(Value→Prop)):=[("internal/bytealg.MaxLen",fun v=>∃m,v=.int .i64 m),("strconv.ErrSyntax",fun v=>∃te pe,v=.iface te pe),("strconv.ErrRange",fun v=>∃te pe,v=.iface te pe)]
structure Laid (P:Program) (w:World):Prop where
 tab:∀t∈tabs,(P.globalNamed t.1).isSome=true→Lib.TabIs P w t.1 t.2.1 t.2.2
 cel:∀t∈celv,∀g,P.globalNamed t.1=some g→∃v,w.cell? ⟨g,0,none⟩=some v∧t.2 v
def Keeps (P:Program) (F:List Nat) (w:World):Prop:=∀w':World,(∀b,b<w.heap.size→b∉F→w'.heap[b]?=w.heap[b]?)→Laid P w'
theorem Keeps.laid {P:Program} {F:List Nat} {w:World} (h:Keeps P F w):Laid P w:=h w fun _ _ _=>rfl
theorem Laid.keeps {P:Program} {w:World} (h:Laid P w):Keeps P [] w:=fun w' hw=>⟨fun t ht hs=>by
 have h1:=h.tab t ht hs
 unfold Lib.TabIs World.var? at h1 ⊢
 obtain⟨g,hg⟩:=Option.isSome_iff_exists.1 hs
 rw[hg,Option.bind_some] at h1 ⊢
 have hlt:g<w.heap.size:=by
  rcases Nat.lt_or_ge g w.heap.size with hh|hh
  ·exact hh
  ·rw[Array.getElem?_eq_none hh] at h1;cases h1
 rw[hw g hlt (by simp)];exact h1,fun t ht g hg=>by
 obtain⟨v,hv,hp⟩:=h.cel t ht g hg
 exact⟨v,(World.cell?_of_block (w:=w) (hw g (Lib.lt_of_cell hv) (by simp))).trans hv,hp⟩⟩
def Fn (P:Program) (f:FuncId) (as:List A) (res:X):Prop:=
 ∀(w:World) (S0:Nat→Prop) (vs:List Value),(∀b,S0 b→b<w.heap.size)→dR w S0 as vs→Laid P w→
  Calls P f vs.toArray w fun e w'=>∃y F S',e=.returned y∧cF w' (fun b=>S0 b∨S' b) res y F∧Left w w' F S'
mutual
def nQ:D→Bool
 |.r (.v _)=>true
 |.r _=>false
 |.o _ es=>kB es
def jd:List D→Bool
 |[]=>true
 |d::ds=>nQ d&&jd ds
def kB:List (List D)→Bool
 |[]=>true
 |e::es=>jd e&&kB es
end
mutual
def X.fresh:X→Bool
 |.c d=>nQ d
 |.g ds=>jd ds
 |.u xs=>X.freshs xs
 |.p ds=>jd ds
def X.freshs:List X→Bool
 |[]=>true
 |x::xs=>x.fresh&&X.freshs xs
end
def C.lent:C→Bool
 |.f _ _ _ _=>true
 |_=>false
def Cs.lent:List C→Bool
 |[]=>false
 |c::cs=>c.lent||Cs.lent cs
def V.lent:V→Bool
 |.c x=>x.lent
 |.g cs=>Cs.lent cs
 |_=>false
def fi (st:St):List O→Bool
 |[]=>false
 |x::xs=>(st.ev x).lent||fi st xs
def im (st:St):C→Option R
 |.r x=>some x
 |.n k=>some (.s k [])
 |.f id k lo n=>match st.ent id with
  |some (.arr k' es)=>if k'=k∧lo+n≤es.length then some (.s k (toRdss ((es.drop lo).take n))) else none
  |_=>none
 |_=>none
def gn (st:St):List C→Option (List R)
 |[]=>some []
 |c::cs=>match im st c,gn st cs with
  |some r,some rs=>some (r::rs)
  |_,_=>none
def toA (st:St):V→Option A
 |.c x=>(im st x).map A.c
 |.g cs=>(gn st cs).map A.g
 |.q cs=>some (.q cs)
 |_=>none
def gK (st:St):List O→Option (List A)
 |[]=>some []
 |x::xs=>match toA st (st.ev x),gK st xs with
  |some r,some rs=>some (r::rs)
  |_,_=>none
section
variable {φ:Nat→Value} {S:Nat→Prop} {fp:Nat→List Nat} {M:MS} {w0:World} {U:Nat→Prop} {N:Nat} {st st':St} {a:Act} {w w':World} {P:Program}
mutual
theorem m9 {S2:Nat→Prop} (hS:∀b,S b→S2 b):∀(t:D) (y:Value) (F:List Nat),cv w S t y F→(∀b∈F,S2 b)→aY w S2 (j6 t) y
 |.r x,y,F,h,hF=>by
  simp only[cv] at h
  simp only[j6]
  exact gf hS (fun _ _=>rfl) x y h.2
 |.o k es,y,F,h,hF=>by
  simp only[cv] at h
  obtain⟨ty,xs,fps,h1,h2,rfl⟩:=h
  simp only[j6,aY]
  have hl:(toRdss es).length=es.length:=by rw[kq];simp
  rcases h1.2 with⟨rfl,h0⟩|⟨g,cap,cur,rfl,_,hg,hnc,hcm,_⟩
  ·have:es=[]:=List.eq_nil_of_length_eq_zero h0
   subst this
   exact⟨none,0,rfl,Nat.le_refl _,Nat.zero_le _,by simp[toRdss]⟩
  ·refine⟨some ⟨g,0,none⟩,cap,by rw[hl],by rw[hl];exact hnc,hcm,fun _=>⟨g,0,rfl,hF g (by simp[Value.ownBlock]),?_⟩⟩
   exact kK hS k es xs fps g 0 h2 (fun b hb=>hF b (by simp[hb])) (fun j u hj=>by rw[Nat.zero_add];exact e7 h1 (b:=g) (N':=es.length) (cap:=cap) rfl hj)
theorem ly {S2:Nat→Prop} (hS:∀b,S b→S2 b):∀(ts:List D) (xs:List Value) (F:List Nat) (b o:Nat),ak w S ts xs F→(∀b∈F,S2 b)→(∀j u,xs[j]?=some u→w.cell? ⟨b,o+j,none⟩=some u)→aJ w S2 b o (ee ts)
 |[],_,_,_,_,_,_,_=>by simp[ee,aJ]
 |t::ts,xs,F,b,o,h,hF,hc=>by
  simp only[ak] at h
  obtain⟨y,ys,f1,f2,rfl,rfl,h3,h4⟩:=h
  simp only[ee,aJ]
  refine⟨⟨y,by simpa using hc 0 y rfl,m9 hS t y f1 h3 (fun b hb=>hF b (by simp[hb]))⟩,ly hS ts ys f2 b (o+1) h4 (fun b hb=>hF b (by simp[hb])) (fun j u hj=>?_)⟩
  rw[show o+1+j=o+(j+1) from by omega]
  exact hc (j+1) u (by simpa using hj)
theorem kK {S2:Nat→Prop} (hS:∀b,S b→S2 b) (k:Nat):∀(es:List (List D)) (xs:List Value) (F:List Nat) (b o:Nat),an w S k es xs F→(∀b∈F,S2 b)→(∀j u,xs[j]?=some u→w.cell? ⟨b,o+j,none⟩=some u)→bv w S2 b k o (toRdss es)
 |[],_,_,_,_,_,_,_=>by simp[toRdss,bv]
 |e::es,xs,F,b,o,h,hF,hc=>by
  simp only[an] at h
  obtain⟨x1,x2,f1,f2,rfl,rfl,h3,h4⟩:=h
  have hl:=aG _ _ _ h3.2
  simp only[toRdss,bv]
  refine⟨⟨by rw[lG];simpa using h3.1,ly hS e x1 f1 b o h3.2 (fun b hb=>hF b (by simp[hb])) (fun j u hj=>hc j u ?_)⟩,kK hS k es x2 f2 b (o+k) h4 (fun b hb=>hF b (by simp[hb])) (fun j u hj=>?_)⟩
  ·rw[List.getElem?_append_left (List.getElem?_eq_some_iff.1 hj).1];exact hj
  ·rw[show o+k+j=o+(x1.length+j) from by rw[hl,h3.1];omega]
   refine hc _ u ?_
   rw[List.getElem?_append_right (by omega),Nat.add_sub_cancel_left]
   exact hj
end
theorem pm {id k lo n:Nat} {y:Value} {es:List (List D)} (h:SimX φ S fp M w0 U N st a w) (hent:st.ent id=some (.arr k es)) (hle:lo+n≤es.length) (hv:av w S φ (.f id k lo n) y):
 ∃ys F ad c,y=.slice ad n c∧n≤c∧c≤maxLen∧an w S k ((es.drop lo).take n) ys F∧(∀b∈F,b∈fp id)∧((es.drop lo).take n).length=n∧(0<n→∃b,ad=some ⟨b,lo*k,none⟩∧b∈fp id∧∀j u,ys[j]?=some u→w.cell? ⟨b,lo*k+j,none⟩=some u):=by
 obtain⟨u1,u2,u3,u4,u5⟩:=h.ents id _ hent
 obtain⟨ty,xs,fps,o1,o2,o5⟩:=u3
 obtain⟨ad,c,hsv,hnc,hcm⟩:=dJ (by simpa [vRep] using hv)
 have e3:es=es.take lo++((es.drop lo).take n++(es.drop lo).drop n):=by rw[List.take_append_drop,List.take_append_drop]
 have o2':=o2
 rw[e3] at o2'
 obtain⟨x1,x2,f1,f2,hxs,hfs,g1,g2⟩:=cg _ _ _ _ o2'
 obtain⟨x3,x4,f3,f4,hx2,hf2,g3,g4⟩:=cg _ _ _ _ g2
 have l1:=bn _ _ _ g1
 have l3:=bn _ _ _ g3
 rw[List.length_take,Nat.min_eq_left (by omega)] at l1
 have hlen:((es.drop lo).take n).length=n:=by rw[List.length_take,List.length_drop];omega
 refine⟨x3,f3,ad,c,hsv,hnc,hcm,g3,fun b hb=>by rw[o5,hfs,hf2];simp[hb],hlen,fun hn0=>?_⟩
 have hadr:∃b N' cap,Hd (φ id) b N' cap∧ad=some ⟨b,lo*k,none⟩:=by
  simp only[av] at hv
  rcases hv with⟨_,h0,_⟩|⟨rfl,b,N',cap,hh,hy,_⟩|⟨_,a',c',hy,_,_,hh⟩
  ·omega
  ·rw[hsv] at hy
   cases hy
   exact⟨b,N',c,hh,by simp⟩
  ·rw[hsv] at hy
   cases hy
   exact hh hn0
 obtain⟨b,N',cap,hh,had⟩:=hadr
 refine⟨b,had,by rw[o5];exact ba (bf hh),fun j u hj=>e7 o1 hh ?_⟩
 have hlt:j<x3.length:=(List.getElem?_eq_some_iff.1 hj).1
 rw[hxs,hx2,List.getElem?_append_right (by omega),l1,Nat.add_sub_cancel_left,List.getElem?_append_left hlt]
 exact hj
theorem kc {T:Nat→Prop} {c:C} {r:R} {y:Value} (h:SimX φ S fp M w0 U N st a w) (hS:∀b,S b→T b) (hE:∀id e,st.ent id=some e→∀b∈fp id,T b) (hr:im st c=some r) (hv:av w S φ c y):aY w T r y:=by
 cases c with
 |r x=>
  simp[im] at hr
  subst hr
  exact gf hS (fun _ _=>rfl) x y (by simpa [av] using hv)
 |n k=>
  simp[im] at hr
  subst hr
  simp only[av] at hv
  subst hv
  simp only[aY]
  exact⟨none,0,rfl,Nat.le_refl _,Nat.zero_le _,by simp⟩
 |f id k lo n=>
  simp only[im] at hr
  split at hr
  ·rename_i k' es hent
   split at hr
   ·rename_i hc
    obtain⟨rfl,hle⟩:=hc
    cases hr
    obtain⟨ys,F,ad,c,hy,hnc,hcm,g3,hF,hlen,hpos⟩:=pm h hent hle hv
    subst hy
    simp only[aY]
    have hl:(toRdss ((es.drop lo).take n)).length=n:=by rw[kq,List.length_map,hlen]
    refine⟨ad,c,by rw[hl],by rw[hl];exact hnc,hcm,fun hne=>?_⟩
    have hn0:0<n:=by rw[←hl];exact List.length_pos_iff.2 hne
    obtain⟨b,rfl,hb,hcell⟩:=hpos hn0
    exact⟨b,lo*k',rfl,hE id _ hent b hb,kK hS k' _ ys F b _ g3 (fun b' hb'=>hE id _ hent b' (hF b' hb')) hcell⟩
   ·cases hr
  ·cases hr
 |p id k i off=>simp[im] at hr
 |un=>simp[im] at hr
 |m id=>simp[im] at hr
theorem lT {T:Nat→Prop} (h:SimX φ S fp M w0 U N st a w) (hS:∀b,S b→T b) (hE:∀id e,st.ent id=some e→∀b∈fp id,T b):∀(cs:List C) (rs:List R) (ys:List Value),gn st cs=some rs→ar w S φ cs ys→ed w T rs ys
 |[],rs,ys,hr,hv=>by
  simp[gn] at hr
  subst hr
  simpa [ed,ar] using hv
 |c::cs,rs,ys,hr,hv=>by
  obtain⟨z,zs,rfl,hz,hzs⟩:=hv
  simp only[gn] at hr
  split at hr
  ·rename_i r rs' h1 h2
   cases hr
   exact⟨z,zs,rfl,kc h hS hE h1 hz,lT h hS hE cs rs' zs h2 hzs⟩
  ·cases hr
def cG:List Operand→List O→Bool
 |[],[]=>true
 |x::xs,ox::os=>aI x ox&&cG xs os
 |_,_=>false
theorem vt {T:Nat→Prop} (h:SimX φ S fp M w0 U N st a w) (hS:∀b,S b→T b) (hE:∀id e,st.ent id=some e→∀b∈fp id,T b) {v:V} {x:A} {y:Value} (h1:toA st v=some x) (hv:vRep w S φ v y):vg w T x y:=by
 unfold toA at h1
 split at h1
 ·simp only[Option.map_eq_some_iff] at h1
  obtain⟨r',hr',rfl⟩:=h1
  exact kc h hS hE hr' (by simpa [vRep] using hv)
 ·simp only[Option.map_eq_some_iff] at h1
  obtain⟨r',hr',rfl⟩:=h1
  simp only[vRep] at hv
  obtain⟨ys,hy,hrr⟩:=hv
  exact⟨ys,hy,lT h hS hE _ r' ys hr' hrr⟩
 ·rename_i cs
  cases h1
  simp only[vRep] at hv
  obtain⟨b,o,e1,e2,e3⟩:=hv
  refine⟨b,o,e1,fun hne=>hS _ (e2 hne),?_⟩
  match cs,e2,e3 with
  |[],_,_=>simp[aJ]
  |r::rs,e2,e3=>exact du hS (fun _ _=>rfl) b o (r::rs) (e2 (by simp)) e3
 ·cases h1
theorem fP {T:Nat→Prop} (h:SimX φ S fp M w0 U N st a w) (hS:∀b,S b→T b) (hE:∀id e,st.ent id=some e→∀b∈fp id,T b):∀(xs:List Operand) (os:List O) (as:List A),cG xs os=true→gK st os=some as→dR w T as (xs.map a.eval)
 |[],[],as,_,hr=>by
  simp[gK] at hr
  subst hr
  rfl
 |x::xs,ox::os,as,hf,hr=>by
  simp only[cG,Bool.and_eq_true] at hf
  simp only[gK] at hr
  split at hr
  ·rename_i r rs h1 h2
   cases hr
   obtain⟨hv,_⟩:=h.ev hf.1
   exact⟨a.eval x,xs.map a.eval,rfl,vt h hS hE h1 hv,fP h hS hE xs os rs hf.2 h2⟩
  ·cases hr
 |[],_::_,_,hf,_=>by simp[cG] at hf
 |_::_,[],_,hf,_=>by simp[cG] at hf
theorem pF (h:SimX φ S fp M w0 U N st a w) (xs:List Operand) (os:List O) (as:List A) (hf:cG xs os=true) (hr:gK st os=some as):dR w (fun b=>b<w.heap.size) as (xs.map a.eval):=
 fP h (fun b hb=>h.sLt b hb) (fun id e he b hb=>((h.ents id e he).2.2.2.2 b hb).2.1) xs os as hf hr
mutual
theorem nw {S2:Nat→Prop}:∀(d:D) (y:Value) (F:List Nat),nQ d=true→cv w S d y F→cv w S2 d y F
 |.r (.v x),y,F,_,h=>by simpa [cv,aY] using h
 |.r (.s k es),_,_,hf,_=>by simp[nQ] at hf
 |.o k es,y,F,hf,h=>by
  simp only[cv] at h ⊢
  obtain⟨ty,xs,fps,h1,h2,h3⟩:=h
  exact⟨ty,xs,fps,h1,kE k es xs fps (by simpa [nQ] using hf) h2,h3⟩
theorem go {S2:Nat→Prop}:∀(ds:List D) (ys:List Value) (F:List Nat),jd ds=true→ak w S ds ys F→ak w S2 ds ys F
 |[],ys,F,_,h=>by simpa [ak] using h
 |d::ds,ys,F,hf,h=>by
  simp only[jd,Bool.and_eq_true] at hf
  simp only[ak] at h ⊢
  obtain⟨y,zs,f1,f2,h1,h2,h3,h4⟩:=h
  exact⟨y,zs,f1,f2,h1,h2,nw d y f1 hf.1 h3,go ds zs f2 hf.2 h4⟩
theorem kE {S2:Nat→Prop} (k:Nat):∀(es:List (List D)) (ys:List Value) (F:List Nat),kB es=true→an w S k es ys F→an w S2 k es ys F
 |[],ys,F,_,h=>by simpa [an] using h
 |e::es,ys,F,hf,h=>by
  simp only[kB,Bool.and_eq_true] at hf
  simp only[an] at h ⊢
  obtain⟨y1,y2,f1,f2,h1,h2,h3,h4⟩:=h
  exact⟨y1,y2,f1,f2,h1,h2,⟨h3.1,go e y1 f1 hf.1 h3.2⟩,kE k es y2 f2 hf.2 h4⟩
end
mutual
theorem iK {S2:Nat→Prop}:∀(x:X) (y:Value) (F:List Nat),x.fresh=true→cF w S x y F→cF w S2 x y F
 |.c d,y,F,hf,h=>nw d y F hf h
 |.g ds,y,F,hf,h=>by
  simp only[cF] at h ⊢
  obtain⟨ys,e1,e2⟩:=h
  exact⟨ys,e1,go ds ys F hf e2⟩
 |.u xs,y,F,hf,h=>by
  simp only[cF] at h ⊢
  obtain⟨ys,e1,e2⟩:=h
  exact⟨ys,e1,kQ xs ys F hf e2⟩
 |.p ds,y,F,hf,h=>by
  simp only[cF] at h ⊢
  obtain⟨b,cap,ty,xs,fps,e1,e2,e3,e4⟩:=h
  exact⟨b,cap,ty,xs,fps,e1,e2,go ds xs fps hf e3,e4⟩
theorem kQ {S2:Nat→Prop}:∀(xs:List X) (ys:List Value) (F:List Nat),X.freshs xs=true→dd w S xs ys F→dd w S2 xs ys F
 |[],ys,F,_,h=>by simpa [dd] using h
 |x::xs,ys,F,hf,h=>by
  simp only[X.freshs,Bool.and_eq_true] at hf
  simp only[dd] at h ⊢
  obtain⟨z,zs,f1,f2,h1,h2,h3,h4⟩:=h
  exact⟨z,zs,f1,f2,h1,h2,iK x z f1 hf.1 h3,kQ xs zs f2 hf.2 h4⟩
end
theorem uL {c:C} (st2:St) (hc:c.lent=false):im st2 c=im st c:=by cases c<;>simp_all [im,C.lent]
theorem ru (st2:St):∀{cs:List C},Cs.lent cs=false→gn st2 cs=gn st cs
 |[],_=>rfl
 |c::cs,h=>by
  simp only[Cs.lent,Bool.or_eq_false_iff] at h
  simp only[gn,uL (st:=st) st2 h.1,ru st2 h.2]
theorem Ae (st2:St) {v:V} (h:v.lent=false):toA st2 v=toA st v:=by
 cases v with
 |c x=>simp only[toA];rw[uL (c:=x) (st:=st) st2 h]
 |g cs=>simp only[toA];rw[ru (cs:=cs) (st:=st) st2 h]
 |u vs=>rfl
 |q cs=>rfl
 |ifc t x=>rfl
 |clo g cs=>rfl
theorem mY (st2:St) (hs:st2.sl=st.sl):∀{xs:List O},fi st xs=false→gK st2 xs=gK st xs
 |[],_=>rfl
 |x::xs,h=>by
  simp only[fi,Bool.or_eq_false_iff] at h
  have he:st2.ev x=st.ev x:=by cases x<;>simp[St.ev,St.get,hs]
  simp only[gK,he,Ae (st:=st) st2 h.1,mY st2 hs h.2]
def C.ofD (d:D):C:=.r (j6 d)
mutual
def V.ofX:X→V
 |.c d=>.c (.r (j6 d))
 |.g ds=>.g (ds.map C.ofD)
 |.u xs=>.u (V.ofXs xs)
 |.p ds=>.q (ee ds)
def V.ofXs:List X→List V
 |[]=>[]
 |x::xs=>V.ofX x::V.ofXs xs
end
theorem zk (ds:List D):Cs.inU U (ds.map C.ofD):=Cs.inU_of fun c hc=>by
 obtain⟨d,_,rfl⟩:=List.mem_map.1 hc
 trivial
mutual
theorem qI:∀x:X,(V.ofX x).inU U
 |.c d=>by simp[V.ofX,V.inU,C.inU]
 |.g ds=>by simp only[V.ofX,V.inU];exact zk ds
 |.u xs=>by simp only[V.ofX,V.inU];exact sD xs
 |.p ds=>by simp[V.ofX,V.inU]
theorem sD:∀xs:List X,V.insU U (V.ofXs xs)
 |[]=>by simp[V.ofXs,V.insU]
 |x::xs=>by simp only[V.ofXs,V.insU];exact⟨qI x,sD xs⟩
end
theorem lU {S2:Nat→Prop} (hS:∀b,S b→S2 b):∀(ds:List D) (ys:List Value) (F:List Nat),ak w S ds ys F→(∀b∈F,S2 b)→ar w S2 φ (ds.map C.ofD) ys
 |[],ys,F,h,_=>by simp[ak] at h;simp[ar,h.1]
 |d::ds,ys,F,h,hF=>by
  simp only[ak] at h
  obtain⟨y,zs,f1,f2,rfl,rfl,h3,h4⟩:=h
  exact⟨y,zs,rfl,by simp only[C.ofD,av];exact m9 hS d y f1 h3 (fun b hb=>hF b (by simp[hb])),lU hS ds zs f2 h4 (fun b hb=>hF b (by simp[hb]))⟩
mutual
theorem qv {S2:Nat→Prop} (hS:∀b,S b→S2 b):∀(x:X) (y:Value) (F:List Nat),cF w S x y F→(∀b∈F,S2 b)→vRep w S2 φ (V.ofX x) y
 |.c d,y,F,h,hF=>by
  simp only[cF] at h
  simp only[V.ofX,vRep,av]
  exact m9 hS d y F h hF
 |.g ds,y,F,h,hF=>by
  simp only[cF] at h
  obtain⟨ys,rfl,h2⟩:=h
  simp only[V.ofX,vRep]
  exact⟨ys,rfl,lU hS ds ys F h2 hF⟩
 |.u xs,y,F,h,hF=>by
  simp only[cF] at h
  obtain⟨ys,rfl,h2⟩:=h
  simp only[V.ofX,vRep]
  exact⟨ys,rfl,sx hS xs ys F h2 hF⟩
 |.p ds,y,F,h,hF=>by
  simp only[cF] at h
  obtain⟨b,cap,ty,xs,fps,rfl,e2,e3,rfl⟩:=h
  simp only[V.ofX,vRep]
  exact⟨b,0,rfl,fun _=>hF b (by simp),ly hS ds xs fps b 0 e3 (fun c hc=>hF c (by simp[hc])) (fun j u hj=>by rw[Nat.zero_add];exact e7 e2 (b:=b) (N':=1) (cap:=cap) rfl hj)⟩
theorem sx {S2:Nat→Prop} (hS:∀b,S b→S2 b):∀(xs:List X) (ys:List Value) (F:List Nat),dd w S xs ys F→(∀b∈F,S2 b)→aQ w S2 φ (V.ofXs xs) ys
 |[],ys,F,h,_=>by simp[dd] at h;simp[V.ofXs,aQ,h.1]
 |x::xs,ys,F,h,hF=>by
  simp only[dd] at h
  obtain⟨z,zs,f1,f2,rfl,rfl,h3,h4⟩:=h
  simp only[V.ofXs,aQ]
  exact⟨z,zs,rfl,qv hS x z f1 h3 (fun b hb=>hF b (by simp[hb])),sx hS xs zs f2 h4 (fun b hb=>hF b (by simp[hb]))⟩
end
def eF (id:Nat) (st:St):D→C×St
 |.r x=>(.r x,st)
 |.o k es=>(.f id k 0 es.length,st.set id (.arr k es))
def aL:Nat→St→List D→List C×St
 |_,st,[]=>([],st)
 |id,st,d::ds=>((eF id st d).1::(aL (id+1) (eF id st d).2 ds).1,(aL (id+1) (eF id st d).2 ds).2)
mutual
def X.count:X→Nat
 |.c _=>1
 |.g ds=>ds.length
 |.u xs=>X.counts xs
 |.p ds=>ds.length+1
def X.counts:List X→Nat
 |[]=>0
 |x::xs=>X.count x+X.counts xs
end
mutual
def X.own (nid:Nat) (st:St):X→V×St
 |.c d=>(.c (eF nid st d).1,(eF nid st d).2)
 |.g ds=>(.g (aL nid st ds).1,(aL nid st ds).2)
 |.u xs=>(.u (X.owns nid st xs).1,(X.owns nid st xs).2)
 |.p ds=>(.c (.p (nid+ds.length) ds.length 0 0),(aL nid st ds).2.set (nid+ds.length) (.foc ds.length [] (aL nid st ds).1 []))
def X.owns (nid:Nat) (st:St):List X→List V×St
 |[]=>([],st)
 |x::xs=>((X.own nid st x).1::(X.owns (nid+X.count x) (X.own nid st x).2 xs).1,(X.owns (nid+X.count x) (X.own nid st x).2 xs).2)
end
theorem jS (h:SimX φ S fp M w0 U N st a w) {id:Nat} (hid:¬U id) {d:D} {y:Value} {F:List Nat} (hd:cv w S d y F) (hF:F.Nodup) (hF2:∀b∈F,aT S fp M w0 st w b):
 ∃φ' fp',SimX φ' S fp' M w0 (fun i=>U i∨i=id) N (eF id st d).2 a w∧(∀i,U i→φ' i=φ i)∧(eF id st d).1.inU (fun i=>U i∨i=id)∧av w S φ' (eF id st d).1 y∧
  (∀b,aT S fp M w0 st w b→b∉F→aT S fp' M w0 (eF id st d).2 w b):=by
 cases d with
 |r x=>
  simp only[cv] at hd
  refine⟨φ,fp,h.mono (fun _=>.inl),fun _ _=>rfl,trivial,by simpa [eF,av] using hd.2,fun b hb _=>hb⟩
 |o k es=>
  simp only[cv] at hd
  obtain⟨ty,xs,fps,h1,h2,rfl⟩:=hd
  have:=h.put_ent (w':=w) (id:=id) (e:=.arr k es) (hd:=y) (F:=y.ownBlock.toList++fps) (S':=S) (SimX.keepφ hid y) (h.fresh hid) rfl rfl rfl (Nat.le_refl _) (fun _ _ _=>rfl) (fun _ hb=>hb) (fun b hb=>.inl hb) trivial ⟨ty,xs,fps,h1,h2,rfl⟩ hF (fun b hb=>⟨(hF2 b hb).2.2.1,.inl (hF2 b hb)⟩)
  refine⟨_,_,this,SimX.keepφ hid y,.inr rfl,jA h1,fun b hb hn=>⟨hb.1,hb.2.1,hb.2.2.1,fun i e he=>?_⟩⟩
  simp only[eF] at he
  rw[bq] at he
  by_cases hi:i=id
  ·subst hi;rw[cu];exact hn
  ·rw[if_neg hi] at he;rw[bV _ _ hi];exact hb.2.2.2 i e he
theorem dm:∀(ds:List D) (id:Nat) {st:St} {φ:Nat→Value} {fp:Nat→List Nat} {U:Nat→Prop} {ys:List Value} {F:List Nat},SimX φ S fp M w0 U N st a w→(∀c,id≤c→c<id+ds.length→¬U c)→ak w S ds ys F→F.Nodup→(∀b∈F,aT S fp M w0 st w b)→
 ∃φ' fp',SimX φ' S fp' M w0 (fun i=>U i∨(id≤i∧i<id+ds.length)) N (aL id st ds).2 a w∧(∀i,U i→φ' i=φ i)∧Cs.inU (fun i=>U i∨(id≤i∧i<id+ds.length)) (aL id st ds).1∧ar w S φ' (aL id st ds).1 ys∧
  (∀b,aT S fp M w0 st w b→b∉F→aT S fp' M w0 (aL id st ds).2 w b)
 |[],id,st,φ,fp,U,ys,F,h,_,hd,_,_=>by
  simp[ak] at hd
  exact⟨φ,fp,h.mono (fun _=>.inl),fun _ _=>rfl,trivial,by simp[aL,ar,hd.1],fun b hb _=>hb⟩
 |d::ds,id,st,φ,fp,U,ys,F,h,hid,hd,hF,hF2=>by
  simp only[ak] at hd
  obtain⟨y,zs,f1,f2,rfl,rfl,h3,h4⟩:=hd
  obtain⟨n1,n2,n3⟩:=List.nodup_append.1 hF
  obtain⟨φ1,fp1,a1,a2,a3,a4,a5⟩:=jS h (hid id (Nat.le_refl _) (by simp)) h3 n1 (fun b hb=>hF2 b (by simp[hb]))
  obtain⟨φ2,fp2,b1,b2,b3,b4,b5⟩:=dm ds (id+1) a1 (fun c hc1 hc2 hu=>by
   rcases hu with hu|hu
   ·exact hid c (by omega) (by simp;omega) hu
   ·omega) h4 n2 (fun b hb=>a5 b (hF2 b (by simp[hb])) (fun hb1=>n3 b hb1 b hb rfl))
  have hsub:∀i,((U i∨i=id)∨(id+1≤i∧i<id+1+ds.length))→(U i∨(id≤i∧i<id+(d::ds).length)):=fun i hi=>by
   simp only[List.length_cons]
   rcases hi with(hi|hi)|hi
   ·exact .inl hi
   ·exact .inr ⟨by omega,by omega⟩
   ·exact .inr ⟨by omega,by omega⟩
  refine⟨φ2,fp2,b1.mono hsub,fun i hi=>(b2 i (.inl hi)).trans (a2 i hi),⟨f6 (fun i hi=>hsub i (.inl hi)) _ a3,dv hsub _ b3⟩,⟨y,zs,rfl,jy (U:=fun i=>U i∨i=id) (fun _ hb=>hb) (fun _ _=>rfl) b2 _ _ a3 a4,b4⟩,fun b hb hn=>b5 b (a5 b hb (fun h1=>hn (by simp[h1]))) (fun h2=>hn (by simp[h2]))⟩
end
end Go.Vs
namespace Go.Vs
open Go.RowKit
section
variable {φ:Nat→Value} {S:Nat→Prop} {fp:Nat→List Nat} {M:MS} {w0:World} {U:Nat→Prop} {N:Nat} {st st':St} {a:Act} {w w':World} {P:Program}
mutual
theorem nS:∀(x:X) (id:Nat) {st:St} {φ:Nat→Value} {fp:Nat→List Nat} {U:Nat→Prop} {y:Value} {F:List Nat},SimX φ S fp M w0 U N st a w→(∀c,id≤c→c<id+x.count→¬U c)→cF w S x y F→F.Nodup→(∀b∈F,aT S fp M w0 st w b)→
 ∃φ' fp',SimX φ' S fp' M w0 (fun i=>U i∨(id≤i∧i<id+x.count)) N (x.own id st).2 a w∧(∀i,U i→φ' i=φ i)∧(x.own id st).1.inU (fun i=>U i∨(id≤i∧i<id+x.count))∧vRep w S φ' (x.own id st).1 y∧
  (∀b,aT S fp M w0 st w b→b∉F→aT S fp' M w0 (x.own id st).2 w b)
 |.c d,id,st,φ,fp,U,y,F,h,hid,hx,hF,hF2=>by
  simp only[cF] at hx
  obtain⟨φ1,fp1,a1,a2,a3,a4,a5⟩:=jS h (hid id (Nat.le_refl _) (by simp[X.count])) hx hF hF2
  have hsub:∀i,(U i∨i=id)→(U i∨(id≤i∧i<id+(X.c d).count)):=fun i hi=>hi.imp (fun x=>x) (fun e=>by subst e;simp[X.count])
  exact⟨φ1,fp1,a1.mono hsub,a2,by simp only[X.own,V.inU];exact f6 hsub _ a3,by simp only[X.own,vRep];exact a4,a5⟩
 |.g ds,id,st,φ,fp,U,y,F,h,hid,hx,hF,hF2=>by
  simp only[cF] at hx
  obtain⟨ys,rfl,hd⟩:=hx
  obtain⟨φ1,fp1,a1,a2,a3,a4,a5⟩:=dm ds id h hid hd hF hF2
  exact⟨φ1,fp1,a1,a2,by simp only[X.own,V.inU];exact a3,by simp only[X.own,vRep];exact⟨ys,rfl,a4⟩,a5⟩
 |.u xs,id,st,φ,fp,U,y,F,h,hid,hx,hF,hF2=>by
  simp only[cF] at hx
  obtain⟨ys,rfl,hd⟩:=hx
  obtain⟨φ1,fp1,a1,a2,a3,a4,a5⟩:=qf xs id h hid hd hF hF2
  exact⟨φ1,fp1,a1,a2,by simp only[X.own,V.inU];exact a3,by simp only[X.own,vRep];exact⟨ys,rfl,a4⟩,a5⟩
 |.p ds,id,st,φ,fp,U,y,F,h,hid,hx,hF,hF2=>by
  simp only[cF] at hx
  obtain⟨b,cap,ty,xs,fps,rfl,p1,p2,rfl⟩:=hx
  simp only[X.count] at hid ⊢
  have hnd:=List.nodup_cons.1 hF
  obtain⟨φ1,fp1,a1,a2,a3,a4,a5⟩:=dm ds id h (fun c h1 h2=>hid c h1 (by omega)) p2 hnd.2 (fun c hc=>hF2 c (by simp[hc]))
  have hnU:¬(U (id+ds.length)∨(id≤id+ds.length∧id+ds.length<id+ds.length)):=by
   rintro(hu|hu)
   ·exact hid _ (by omega) (by omega) hu
   ·omega
  have hcl:=aC _ _ a4
  have hdl:=aG _ _ _ p2
  have hrep:entRep w S (Vs.upd φ1 (id+ds.length) (.slice (some ⟨b,0,none⟩) 1 cap)) (.slice (some ⟨b,0,none⟩) 1 cap) (.foc ds.length [] (aL id st ds).1 []) [b]:=by
   refine⟨ty,[],xs,[],[],[],?_,by simp[an],⟨by omega,?_⟩,by simp[an],by simp[Value.ownBlock]⟩
   ·simpa using p1
   ·exact cB (fun _ hb=>hb) (fun _ _=>rfl) (fun i hi=>bV _ _ (fun e=>by subst e;exact hnU hi)) _ _ a3 a4
  have hfb:=a5 b (hF2 b (by simp)) hnd.1
  have hp:=a1.put_ent (w':=w) (id:=id+ds.length) (e:=.foc ds.length [] (aL id st ds).1 []) (hd:=.slice (some ⟨b,0,none⟩) 1 cap) (F:=[b]) (S':=S) (SimX.keepφ hnU _) (a1.fresh hnU) rfl rfl rfl (Nat.le_refl _) (fun _ _ _=>rfl) (fun _ hb=>hb) (fun _ hb=>.inl hb) a3 hrep (by simp) (fun c hc=>by
   simp only[List.mem_singleton] at hc
   subst hc
   exact⟨hfb.2.2.1,.inl hfb⟩)
  refine⟨_,_,hp.mono (fun i hi=>?_),fun i hi=>(bV _ _ (fun e=>by subst e;exact hnU (.inl hi))).trans (a2 i hi),?_,?_,fun c hc hn=>?_⟩
  ·rcases hi with(hi|hi)|hi
   ·exact .inl hi
   ·exact .inr ⟨hi.1,by omega⟩
   ·exact .inr ⟨by omega,by omega⟩
  ·simp only[X.own,V.inU,C.inU]
   exact .inr ⟨by omega,by omega⟩
  ·simp only[X.own,vRep,av,cu]
   exact⟨b,1,cap,rfl,by simp⟩
  ·have hc1:=a5 c hc (fun hm=>hn (by simp[hm]))
   refine⟨hc1.1,hc1.2.1,hc1.2.2.1,fun i e he=>?_⟩
   simp only[X.own] at he
   rw[bq] at he
   by_cases hi:i=id+ds.length
   ·subst hi;rw[cu];intro hm;exact hn (by simp at hm;simp[hm])
   ·rw[if_neg hi] at he;rw[bV _ _ hi];exact hc1.2.2.2 i e he
theorem qf:∀(xs:List X) (id:Nat) {st:St} {φ:Nat→Value} {fp:Nat→List Nat} {U:Nat→Prop} {ys:List Value} {F:List Nat},SimX φ S fp M w0 U N st a w→(∀c,id≤c→c<id+X.counts xs→¬U c)→dd w S xs ys F→F.Nodup→(∀b∈F,aT S fp M w0 st w b)→
 ∃φ' fp',SimX φ' S fp' M w0 (fun i=>U i∨(id≤i∧i<id+X.counts xs)) N (X.owns id st xs).2 a w∧(∀i,U i→φ' i=φ i)∧V.insU (fun i=>U i∨(id≤i∧i<id+X.counts xs)) (X.owns id st xs).1∧aQ w S φ' (X.owns id st xs).1 ys∧
  (∀b,aT S fp M w0 st w b→b∉F→aT S fp' M w0 (X.owns id st xs).2 w b)
 |[],id,st,φ,fp,U,ys,F,h,_,hx,_,_=>by
  simp[dd] at hx
  exact⟨φ,fp,h.mono (fun _=>.inl),fun _ _=>rfl,by simp[X.owns,V.insU],by simp[X.owns,aQ,hx.1],fun b hb _=>hb⟩
 |x::xs,id,st,φ,fp,U,ys,F,h,hid,hx,hF,hF2=>by
  simp only[dd] at hx
  obtain⟨z,zs,f1,f2,rfl,rfl,h3,h4⟩:=hx
  obtain⟨n1,n2,n3⟩:=List.nodup_append.1 hF
  simp only[X.counts] at hid
  obtain⟨φ1,fp1,a1,a2,a3,a4,a5⟩:=nS x id h (fun c h1 h2=>hid c h1 (by omega)) h3 n1 (fun b hb=>hF2 b (by simp[hb]))
  obtain⟨φ2,fp2,b1,b2,b3,b4,b5⟩:=qf xs (id+x.count) a1 (fun c hc1 hc2 hu=>by
   rcases hu with hu|hu
   ·exact hid c (by omega) (by omega) hu
   ·omega) h4 n2 (fun b hb=>a5 b (hF2 b (by simp[hb])) (fun hb1=>n3 b hb1 b hb rfl))
  have hsub:∀i,((U i∨(id≤i∧i<id+x.count))∨(id+x.count≤i∧i<id+x.count+X.counts xs))→(U i∨(id≤i∧i<id+X.counts (x::xs))):=fun i hi=>by
   simp only[X.counts]
   rcases hi with(hi|hi)|hi
   ·exact .inl hi
   ·exact .inr ⟨by omega,by omega⟩
   ·exact .inr ⟨by omega,by omega⟩
  refine⟨φ2,fp2,b1.mono hsub,fun i hi=>(b2 i (.inl hi)).trans (a2 i hi),?_,?_,fun b hb hn=>b5 b (a5 b hb (fun h1=>hn (by simp[h1]))) (fun h2=>hn (by simp[h2]))⟩
  ·simp only[X.owns,V.insU]
   exact⟨ej (fun i hi=>hsub i (.inl hi)) _ a3,jR hsub _ b3⟩
  ·simp only[X.owns,aQ]
   exact⟨z,zs,rfl,cE (U:=fun i=>U i∨(id≤i∧i<id+x.count)) (fun _ hb=>hb) (fun _ _=>rfl) b2 _ _ a3 a4,b4⟩
end
mutual
theorem lH {S2:Nat→Prop} (hS:∀b,S b→S2 b):∀(x:X) (y:Value) (F:List Nat),cF w S x y F→cF w S2 x y F
 |.c d,y,F,h=>by simp only[cF] at h ⊢;exact jg hS (fun _ _=>rfl) d y F (fun _ _=>rfl) h
 |.g ds,y,F,h=>by simp only[cF] at h ⊢;obtain⟨ys,h1,h2⟩:=h;exact⟨ys,h1,bN hS (fun _ _=>rfl) ds ys F (fun _ _=>rfl) h2⟩
 |.u xs,y,F,h=>by simp only[cF] at h ⊢;obtain⟨ys,h1,h2⟩:=h;exact⟨ys,h1,n7 hS xs ys F h2⟩
 |.p ds,y,F,h=>by simp only[cF] at h ⊢;obtain⟨b,cap,ty,xs,fps,e1,e2,e3,e4⟩:=h;exact⟨b,cap,ty,xs,fps,e1,e2,bN hS (fun _ _=>rfl) ds xs fps (fun _ _=>rfl) e3,e4⟩
theorem n7 {S2:Nat→Prop} (hS:∀b,S b→S2 b):∀(xs:List X) (ys:List Value) (F:List Nat),dd w S xs ys F→dd w S2 xs ys F
 |[],ys,F,h=>by simpa [dd] using h
 |x::xs,ys,F,h=>by
  simp only[dd] at h ⊢
  obtain⟨z,zs,f1,f2,h1,h2,h3,h4⟩:=h
  exact⟨z,zs,f1,f2,h1,h2,lH hS x z f1 h3,n7 hS xs zs f2 h4⟩
end
def bT (own:Bool) (nid:Nat) (st:St) (x:X):V×St:=if own then x.own nid st else(V.ofX x,st)
theorem pI (h:SimX φ S fp M w0 U N st a w) {own:Bool} {nid:Nat} {x:X} {y:Value} {F:List Nat} {S':Nat→Prop} (hn:∀c,nid≤c→c<nid+16→¬U c) (hc:x.count≤16) (hx:cF w' (fun b=>S b∨S' b) x y F) (hl:Left w w' F S'):
 ∃φ2 S2 fp2,SimX φ2 S2 fp2 M w0 (iy U nid) N (bT own nid st x).2 a w'∧(bT own nid st x).1.inU (iy U nid)∧vRep w' S2 φ2 (bT own nid st x).1 y:=by
 have hb:=hl.below
 cases own with
 |false=>
  have hs:=h.world2 (w':=w') (S':=fun b=>S b∨S' b∨b∈F) hb.os hb.tape hb.output hb.size (fun b hb' _=>hb.block b hb') (fun _ hb=>.inl hb) (fun b hb'=>by
   rcases hb' with hb'|hb'|hb'
   ·exact .inl hb'
   ·exact .inr (.inr (hl.ro b hb'))
   ·exact .inr (.inr ⟨(hl.own b hb').1,(hl.own b hb').2.1⟩))
  refine⟨φ,_,fp,hs.mono (fun _=>.inl),?_,?_⟩
  ·simp only[bT,Bool.false_eq_true,if_false];exact qI x
  ·simp only[bT,Bool.false_eq_true,if_false];exact qv (fun b hb=>hb.elim .inl (fun q=>.inr (.inl q))) x y F hx (fun b hb=>.inr (.inr hb))
 |true=>
  have hs:=h.world2 (w':=w') (S':=fun b=>S b∨S' b) hb.os hb.tape hb.output hb.size (fun b hb' _=>hb.block b hb') (fun _ hb=>.inl hb) (fun b hb'=>by
   rcases hb' with hb'|hb'
   ·exact .inl hb'
   ·exact .inr (.inr (hl.ro b hb')))
  have hfree:∀b∈F,aT (fun b=>S b∨S' b) fp M w0 st w' b:=fun b hb'=>⟨.inl (Nat.le_trans h.grow (hl.own b hb').1),(hl.own b hb').2.1,fun hs'=>by
   rcases hs' with hs'|hs'
   ·have:=h.sLt b hs';have:=(hl.own b hb').1;omega
   ·exact(hl.own b hb').2.2 hs',fun i e he hm=>by
    have:=((h.ents i e he).2.2.2.2 b hm).2.1
    have:=(hl.own b hb').1
    omega⟩
  obtain⟨φ2,fp2,a1,a2,a3,a4,_⟩:=nS x nid hs (fun c h1 h2=>hn c h1 (by omega)) hx hl.nodup hfree
  have hsub:∀i,(U i∨(nid≤i∧i<nid+x.count))→iy U nid i:=fun i hi=>hi.imp (fun x=>x) (fun e=>⟨e.1,by omega⟩)
  exact⟨φ2,_,fp2,by simpa [bT] using a1.mono hsub,by simpa [bT] using ej hsub _ a3,by simpa [bT] using a4⟩
def fZ (P:Program) (f:FuncId):Bool:=match P.funcs[f]? with
 |some fn=> !(fn.name== "runtime.NumGoroutine")&&fn.body.isSome
 |none=>false
theorem ez {f:FuncId} {args:Array Value} (hf:fZ P f=true):(callFunc f args).run P w=.ok (.enter f args) w:=by
 unfold fZ at hf
 split at hf
 ·rename_i fn hfn
  simp only[Bool.and_eq_true,Bool.not_eq_true'] at hf
  obtain⟨b,hb⟩:=Option.isSome_iff_exists.1 hf.2
  have h1:¬(fn.name= "runtime.NumGoroutine"):=by
   intro e
   have:=hf.1
   rw[e] at this
   simp at this
  simp[callFunc,hfn,h1,hb]
 ·cases hf
theorem SimX.keeps (h:SimX φ S fp M w0 U N st a w) (hL:Keeps P M.bl w0) {F:List Nat} (hF:∀b∈F,w0.heap.size≤b∨b∈M):Keeps P F w:=fun w' hw=>hL w' fun b hb hm=>by
 refine(hw b (Nat.lt_of_lt_of_le hb h.grow) (fun hf=>?_)).trans (h.old b hb hm)
 rcases hF b hf with hh|hh
 ·omega
 ·exact hm hh
theorem SimX.laid (h:SimX φ S fp M w0 U N st a w) (hL:Keeps P M.bl w0):Laid P w:=(h.keeps hL (F:=[]) (fun b hb=>by cases hb)).laid
theorem za {o:Oper} {f:FuncId} {args:Array Operand} {ats:Array TypeId} {xs:List O} {as:List A} {res:X} {own:Bool} {nid:Nat} {K:Act→World→Prop} {Q:Exit→Act→World→Prop}
 (ho:o.op=.call {callee:=.value (.func f),args:=args,argTypes:=ats}) (hf:fZ P f=true) (hx:cG args.toList xs=true) (has:gK st xs=some as) (hfn:Fn P f as res) (hld:fi st xs=false∨res.fresh=true) (hc:res.count≤16)
 (hL:Keeps P M.bl w0) (h:SimX φ S fp M w0 U N st a w) (hn:∀c,nid≤c→c<nid+16→¬U c)
 (hK:∀y w' φ2 S2 fp2,SimX φ2 S2 fp2 M w0 (iy U nid) N (bT own nid st res).2 a w'→(bT own nid st res).1.inU (iy U nid)→vRep w' S2 φ2 (bT own nid st res).1 y→K (a.put o.dst y) w'):o.wp P a w K Q:=by
 have hcall:Calls P f (args.toList.map a.eval).toArray w fun e w'=>∃y F S',e=.returned y∧cF w' (fun b=>S b∨S' b) res y F∧Left w w' F S':=by
  rcases hld with hld|hld
  ·have h0:SimX φ S fp M w0 U N {st with tab:=[]} a w:={h with
    ents:=fun id e he=>by simp[St.ent,aB] at he
    disj:=fun id e id' e' he=>by simp[St.ent,aB] at he}
   have har:=fP (T:=S) h0 (fun b hb=>hb) (fun id e he=>by simp[St.ent,aB] at he) _ _ as hx ((mY (st:=st) {st with tab:=[]} rfl hld).trans has)
   exact hfn w S (args.toList.map a.eval) h.sLt har (h.laid hL)
  ·have har:=pF h _ _ _ hx has
   refine(hfn w (fun b=>b<w.heap.size) (args.toList.map a.eval) (fun _ hb=>hb) har (h.laid hL)).mono fun e w' hp=>?_
   obtain⟨y,F,S',h1,h2,h3⟩:=hp
   exact⟨y,F,S',h1,iK res y F hld h2,h3⟩
 have hrun:(execOp a.eval o).run P w=.ok (.enter f (args.toList.map a.eval).toArray) w:=by
  simp only[execOp,ho]
  have:(#[]++args.map a.eval++#[]:Array Value)=(args.toList.map a.eval).toArray:=by
   apply Array.ext'
   simp
  simp only[resolve,Act.eval,Deferred.ofValue,Sem.run_bind,Sem.run_pure,Result.andThen_ok,invoke]
  rw[←this,ez hf]
 unfold Oper.wp
 rw[hrun,Oper.upon_enter]
 refine hcall.mono fun e w' hpost=>?_
 obtain⟨y,F,S',rfl,hxr,hl⟩:=hpost
 obtain⟨φ2,S2,fp2,b1,b2,b3⟩:=pI (own:=own) h hn hc hxr hl
 exact hK y w' φ2 S2 fp2 b1 b2 b3
end
end Go.Vs
