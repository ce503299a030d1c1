/- Part of the proofs of this seat's laws: Pla. No condition. -/
import Derived.Test.YtdgkokanccedkaaGreatDoorVf
import Derived.Test.YtdgkokanccedkaaGreatDoorLab
import Derived.Test.YtdgkokanccedkaaGreatDoorLaa
import Derived.Lib.AtoiAllCases
import Derived.Lib.ItoaMem
import Derived.Lib.SplitLaws
import Derived.Lib.IndexMore
import Derived.Test.YtdgkokanccedkaaGreatDoorHa
import Derived.Lib.ItoaLen
import Derived.Lib.Join
import Derived.Test.YtdgkokanccedkaaGreatDoorVg
import Derived.Sort.Walk0
set_option linter.unusedVariables false
set_option linter.unusedSimpArgs false
set_option linter.unusedSectionVars false
namespace Go.Vs
open Go.IntWalk
def st (l:List UInt8):ByteArray:=⟨l.toArray⟩
theorem tQ (a b:List UInt8):st a++st b=st (a++b):=by
 apply ByteArray.ext
 rw[ByteArray.data_append]
 simp[st]
theorem am (a:List UInt8):(st a).size=a.length:=by simp[st,ByteArray.size]
def dD (m:Nat):List UInt8:=if m=0 then[] else Lib.decDigits m
theorem yS {m:Nat} (h:m≠0):dD m=dD (m/10)++[UInt8.ofNat (48+m%10)]:=by
 unfold dD
 rw[if_neg h,Lib.decDigits]
 by_cases h10:m<10
 ·rw[dif_pos h10,if_pos (by omega),Nat.mod_eq_of_lt h10];rfl
 ·rw[dif_neg h10,if_neg (by omega)]
theorem wy {n:Int} {d:Nat} (h:n=48+d):G.real.bstr [n]=st [UInt8.ofNat (48+d)]:=by
 show strOfNums [n]=_
 subst h
 unfold strOfNums st
 simp only[List.map_cons,List.map_nil]
 rw[show((48:Int)+(d:Int)).toNat=48+d by omega]
theorem w8 {n:Int} (h0:0≤n) (h1:n≤255):G.real.wrap .u8 n=n:=by
 show IntKind.wrap .u8 n=n
 unfold IntKind.wrap
 simp[IntKind.bits,IntKind.signed]
 omega
theorem zG:∀(k fuel:Nat) (v:List UInt8) (x:Int),k<fuel→x.natAbs<10^k→ -9223372036854775808≤x→x≤9223372036854775807→v.length+k≤1000→
 aX G.real TE.real fuel (st v) x=some (st (dD x.natAbs++v))
 |_,0,_,_,hf,_,_,_,_=>absurd hf (Nat.not_lt_zero _)
 |0,fuel+1,v,x,_,hx,_,_,_=>by
  have:x=0:=by have:x.natAbs<1:=hx;omega
  subst this
  rw[aX,dO,decide_eq_true rfl,cK]
  rfl
 |k+1,fuel+1,v,x,hf,hx,h0,h1,hv=>by
  by_cases hz:x=0
  ·subst hz
   rw[aX,dO,decide_eq_true rfl,cK]
   rfl
  ·have hm:x.natAbs≠0:=by omega
   have hq:(x.tdiv 10).natAbs=x.natAbs/10:=by rw[Int.natAbs_tdiv];rfl
   have hq2: -9223372036854775808≤x.tdiv 10∧x.tdiv 10≤9223372036854775807:=by omega
   have hlt:(x.tdiv 10).natAbs<10^k:=by rw[hq];rw[Nat.pow_succ] at hx;omega
   rw[aX,dO,decide_eq_false hz,mM,yS hm]
   simp only[eK,kF,nX,kA,bU,wJ,bc,al]
   have hd:∀d:Int,d=((x.natAbs%10:Nat):Int)→gd ((G.real.bstr [G.real.wrap .u8 (G.real.wrap .i64 (48+d))]).size+(st v).size≤70368744177664) (aX G.real TE.real fuel (G.real.bstr [G.real.wrap .u8 (G.real.wrap .i64 (48+d))]++st v) (G.real.wrap .i64 (x.tdiv 10)))=some (st (dD (x.natAbs/10)++[UInt8.ofNat (48+x.natAbs%10)]++v)):=fun d hd=>by
    rw[w64 (n:=48+d) (by omega) (by omega),w8 (by omega) (by omega),wy (d:=x.natAbs%10) (by omega),am,am,af (by simp;omega),tQ,w64 hq2.1 hq2.2,zG k fuel _ _ (by omega) hlt hq2.1 hq2.2 (by simp;omega),hq]
    simp
   have hr:(x.tmod 10).natAbs=x.natAbs%10:=by rw[Int.natAbs_tmod];rfl
   split
   ·rw[w64 (n:=0-x.tmod 10) (by omega) (by omega)]
    exact hd _ (by omega)
   ·exact hd _ (by omega)
end Go.Vs
namespace Go.Vs
open Go.Lib
theorem iG {d:Nat} (h:d<10):(UInt8.ofNat (48+d)).toNat=48+d:=by
 rw[UInt8.toNat_ofNat'];omega
theorem pZ (m:Nat):∀c∈decDigits m,48≤c.toNat∧c.toNat≤57:=by
 induction m using Nat.strongRecOn with
 |_ m ih=>
  intro c hc
  rw[decDigits] at hc
  split at hc
  ·rename_i h
   obtain rfl:=List.mem_singleton.1 hc
   rw[iG h];omega
  ·rcases List.mem_append.1 hc with hc|hc
   ·exact ih _ (by omega) c hc
   ·obtain rfl:=List.mem_singleton.1 hc
    rw[iG (by omega)];omega
theorem Ap (m:Nat):decDigits m≠[]:=by
 rw[decDigits]
 split<;>simp
theorem uh (c:UInt8):∀(l:List UInt8) (a v:Nat),parseUint10 a l=.ok v→parseUint10 a (l++[c])=parseUint10 v [c]
 |[],a,v,h=>by
  rw[parseUint10] at h
  injection h with h
  rw[h];rfl
 |x::l,a,v,h=>by
  rw[parseUint10] at h
  rw[List.cons_append,parseUint10]
  split at h
  ·rename_i h1
   rw[if_pos h1]
   split at h
   ·cases h
   ·rename_i h2
    rw[if_neg h2]
    split at h
    ·cases h
    ·rename_i h3
     rw[if_neg h3]
     exact uh c l _ v h
  ·cases h
theorem wU (m:Nat):m<1000000000000→parseUint10 0 (decDigits m)=.ok m:=by
 induction m using Nat.strongRecOn with
 |_ m ih=>
  intro hm
  rw[decDigits]
  split
  ·rename_i h
   rw[parseUint10,iG h,if_pos (by omega),if_neg (by omega),if_neg (by omega),parseUint10]
   congr 1;omega
  ·rw[uh _ _ _ _ (ih (m/10) (by omega) (by omega)),parseUint10,iG (by omega),if_pos (by omega),if_neg (by omega),if_neg (by omega),parseUint10]
   congr 1;omega
theorem yp {m:Nat} (h:m<1000000000000):atoiAll (decDigits m)=.ok (m:Int):=by
 have hp:=wU m h
 have hd:=pZ m
 have hn:=Ap m
 generalize decDigits m=l at hp hd hn
 cases l with
 |nil=>exact absurd rfl hn
 |cons c r=>
  have hc:=hd c (by simp)
  rw[atoiAll_plain c r (by omega) (by omega),parseMag,if_neg hn,hp,signless,if_neg (by omega)]
theorem gH (m:Nat):itoa (m:Int)=decDigits m:=itoa_nonneg m
theorem wE {x:Int} (h:0≤x):∀c∈itoa x,48≤c.toNat∧c.toNat≤57:=by
 obtain⟨m,rfl⟩:=Int.eq_ofNat_of_zero_le h
 rw[gH];exact pZ m
theorem fC {x:Int} (h:0≤x) {c:UInt8} (hc:c.toNat<48):c∉itoa x:=fun hm=>by
 have:=wE h c hm;omega
def two (x:Nat):List UInt8:=[UInt8.ofNat (48+x/10),UInt8.ofNat (48+x%10)]
theorem uP {x y:Nat} (hx:x<100) (hy:y<100) (h:two x=two y):x=y:=by
 unfold two at h
 injection h with h1 h2
 injection h2 with h2 _
 have h1:=congrArg UInt8.toNat h1
 have h2:=congrArg UInt8.toNat h2
 rw[iG (by omega),iG (by omega)] at h1 h2
 omega
theorem nY {x:Nat} (h:x<100):itoa (x:Int)=if x<10 then[UInt8.ofNat (48+x%10)] else two x:=by
 rw[gH]
 by_cases h1:x<10
 ·rw[if_pos h1,decDigits_one h1,Nat.mod_eq_of_lt h1]
 ·rw[if_neg h1,decDigits_two h1 h];rfl
def clk (m:Nat):List UInt8:=two (m/60)++58::two (m%60)
theorem zl {x y:Nat} (hx:x<1440) (hy:y<1440) (h:clk x=clk y):x=y:=by
 unfold clk at h
 have h1:two (x/60)=two (y/60):=(List.append_inj h rfl).1
 have h2:=(List.append_inj h rfl).2
 injection h2 with _ h2
 have:=uP (by omega) (by omega) h1
 have:=uP (by omega) (by omega) h2
 omega
theorem kI (m:Nat):(clk m).length=5:=rfl
theorem wV {x:Nat} (h:x<100):∀c∈two x,48≤c.toNat∧c.toNat≤57:=by
 intro c hc
 unfold two at hc
 simp only[List.mem_cons,List.not_mem_nil,or_false] at hc
 rcases hc with rfl|rfl
 ·rw[iG (by omega)];omega
 ·rw[iG (by omega)];omega
theorem yI {m:Nat} (h:m<1440):(32:UInt8)∉clk m:=fun hm=>by
 unfold clk at hm
 rcases List.mem_append.1 hm with hm|hm
 ·have:=wV (by omega) _ hm;simp at this
 ·rcases List.mem_cons.1 hm with hm|hm
  ·exact absurd hm (by decide)
  ·have:=wV (by omega) _ hm;simp at this
def tmT (t:Int):List UInt8:=itoa ((t.toNat/1440:Nat):Int)++32::clk (t.toNat%1440)
def gB (c:UInt8):List UInt8→List UInt8→List (List UInt8)
 |a,[]=>[a]
 |a,x::l=>if x=c then a::gB c [] l else gB c (a++[x]) l
def spl (c:UInt8) (l:List UInt8):List (List UInt8):=gB c [] l
def hpd (a:List UInt8):List (List UInt8)→List (List UInt8)
 |[]=>[]
 |w::ws=>(a++w)::ws
theorem qR (c:UInt8):∀(l a:List UInt8),gB c a l=hpd a (spl c l)
 |[],a=>by simp[spl,gB,hpd]
 |x::l,a=>by
  unfold spl
  rw[gB,gB]
  split
  ·simp[hpd]
  ·rw[qR c l (a++[x]),qR c l ([]++[x])]
   cases spl c l<;>simp[hpd]
theorem ua {c:UInt8}:∀(l a:List UInt8),c∉l→gB c a l=[a++l]
 |[],a,_=>by simp[gB]
 |x::l,a,h=>by
  rw[gB,if_neg (fun e=>h (by simp[e])),ua l _ (fun hm=>h (by simp[hm]))];simp
theorem ut {c:UInt8} (r:List UInt8):∀(l a:List UInt8),c∉l→gB c a (l++c::r)=(a++l)::spl c r
 |[],a,_=>by simp[gB,spl]
 |x::l,a,h=>by
  rw[List.cons_append,gB,if_neg (fun e=>h (by simp[e])),ut r l _ (fun hm=>h (by simp[hm]))];simp
theorem tK {c:UInt8} {l:List UInt8} (h:c∉l):spl c l=[l]:=by unfold spl;rw[ua l [] h];rfl
theorem lF {c:UInt8} {l:List UInt8} (r:List UInt8) (h:c∉l):spl c (l++c::r)=l::spl c r:=by unfold spl;rw[ut r l [] h];rfl
theorem mt {x c:UInt8} (h:x≠c) (l:List UInt8):index (x::l) [c]=if index l [c]== -1 then-1 else index l [c]+1:=by
 have hp:([c]:List UInt8).isPrefixOf (x::l)=false:=by simp[List.isPrefixOf,Ne.symm h]
 rw[index,hp];simp
theorem mD (c:UInt8) (l:List UInt8):index (c::l) [c]=0:=by rw[index];simp[List.isPrefixOf]
theorem rV {x c:UInt8} (h:x≠c) (l:List UInt8):∀k,splitK [c] 0 k (x::l)=hpd [x] (splitK [c] 0 k l)
 |0=>rfl
 |k+1=>by
  rw[splitK,splitK,mt h]
  by_cases hm:index l [c]= -1
  ·rw[hm];rfl
  ·have hge:=index_ge l [c]
   obtain⟨j,hj⟩:∃j:Nat,index l [c]=j:=⟨(index l [c]).toNat,by omega⟩
   rw[hj,if_neg (c:=((j:Int)== -1)=true) (by simp<;>omega),if_neg (by simp<;>omega),if_neg (by simp<;>omega)]
   rw[show((j:Int)+1).toNat=j+1 by omega,show((j:Int)).toNat=j by omega]
   simp[hpd]
theorem kb (c:UInt8):∀l:List UInt8,splitK [c] 0 (count l [c]) l=spl c l
 |[]=>by rw[count_miss (by simp[index])];rfl
 |x::l=>by
  by_cases h:x=c
  ·subst h
   rw[count_cons_eq,Nat.add_comm,splitK,mD,if_neg (by decide)]
   unfold spl
   rw[gB,if_pos rfl,←spl,←kb x l]
   simp
  ·rw[count_cons_ne x c l h,rV h,kb c l,show spl c (x::l)=gB c [x] l by unfold spl;rw[gB,if_neg h];rfl,qR]
theorem tc (c:UInt8) (s:ByteArray):splitB (st [c]) 0 (countB s (st [c])) s=(spl c s.data.toList).map st:=by
 have h:(splitB (st [c]) 0 (countB s (st [c])) s).map (·.data.toList)=spl c s.data.toList:=by
  rw[splitB_data]
  show splitK [c] 0 (count s.data.toList [c]) s.data.toList=_
  exact kb c _
 rw[←h,List.map_map]
 conv=>lhs;rw[←List.map_id (splitB _ _ _ _)]
 exact List.map_congr_left fun x _=>by apply ByteArray.ext;simp[st]
theorem xW {c:UInt8} (r:List UInt8):∀l:List UInt8,c∉l→index (l++c::r) [c]=l.length
 |[],_=>mD c r
 |x::l,h=>by
  rw[List.cons_append,mt (fun e=>h (by simp[e])),xW r l (fun hm=>h (by simp[hm])),if_neg (by simp<;>omega)]
  simp
theorem wv {c:UInt8} {l:List UInt8} (r:List UInt8) (h:c∉l):cut (l++c::r) [c]=(l,r,true):=by
 unfold cut
 rw[xW r l h,if_pos (by omega)]
 simp
end Go.Vs
namespace Go.Vs
open Go.IntWalk
def I6 (x:Int):Prop:= -9223372036854775808≤x∧x≤9223372036854775807
theorem uY {x:Int} (h:I6 x):bO G.real TE.real x=some (st (Lib.itoa x)):=by
 unfold bO Lib.itoa
 rw[dO,al]
 by_cases hz:x=0
 ·rw[if_pos hz,if_neg (by omega)]
  subst hz
  rw[show(0:Int).toNat=0 from rfl,Lib.decDigits,dif_pos (by omega)]
  rfl
 ·rw[if_neg hz]
  have hd:dD x.natAbs=Lib.decDigits x.natAbs:=by unfold dD;rw[if_neg (by omega)]
  have hlt:x.natAbs<10^19:=by
   have:(10:Nat)^19=10000000000000000000:=by decide
   rw[this];have:=h.1;have:=h.2;omega
  have e:=zG 19 1000000000 [] x (by omega) hlt h.1 h.2 (by simp)
  rw[hd,List.append_nil] at e
  rw[show str_k0=st [] from rfl,e,ah,eK,al]
  have hl:(Lib.decDigits x.natAbs).length≤21:=by
   have:=Lib.itoa_length_le x h.1 h.2
   unfold Lib.itoa at this
   split at this
   ·simp at this;omega
   ·rw[show x.natAbs=x.toNat by omega];exact this
  by_cases hn:x<0
  ·rw[if_pos hn,if_pos hn,show kW=st [45] from rfl,am,am,af (by simp;omega),wJ,tQ]
   rfl
  ·rw[if_neg hn,if_neg hn,show x.natAbs=x.toNat by omega]
theorem wr {x:Int} (h:I6 x):bd G.real TE.real x=some (st (Lib.itoa x)):=by
 unfold bd fV
 rw[af (show-9223372036854775808≤x∧x≤9223372036854775807 from h),ah]
 rfl
def bl (B:List (List UInt8)):List UInt8:=(B.map (32:: ·)).flatten
theorem mV (z:ByteArray):st z.data.toList=z:=by
 apply ByteArray.ext
 simp[st]
end Go.Vs
namespace Go.Vs
open Go.IntWalk
theorem xD {a b:ByteArray} (h:bOf a=bOf b):a=b:=by
 have:=congrArg sOf h
 rwa [uB,uB] at this
instance memD (x:ByteArray):∀l:List ByteArray,Decidable (x∈l)
 |[]=>.isFalse (by simp)
 |y::l=>match decEq x y,memD x l with
  |.isTrue h,_=>.isTrue (by simp[h])
  |.isFalse h,.isTrue h2=>.isTrue (by simp[h2])
  |.isFalse h,.isFalse h2=>.isFalse (by simp[h,h2])
theorem bL (a b:ByteArray):G.real.seq a b=decide (a=b):=by
 rw[zI,Lib.toList_data,Lib.toList_data]
 by_cases h:a=b
 ·subst h;simp
 ·have:¬a.data.toList=b.data.toList:=fun e=>h (xD e)
  rw[decide_eq_false h]
  exact beq_false_of_ne this
def bLt (a b:ByteArray):Prop:=bOf a<bOf b
instance (a b:ByteArray):Decidable (bLt a b):=inferInstanceAs (Decidable (bOf a<bOf b))
theorem z0 (a b:ByteArray):G.real.slt a b=decide (bLt a b):=by
 show Op.bytesLess a.toList b.toList=_
 rw[Go.Proofs.bytesLess_eq,Lib.toList_data,Lib.toList_data]
 rfl
theorem ka (a:ByteArray):¬bLt a a:=List.lt_irrefl _
theorem pQ {a b c:ByteArray} (h1:bLt a b) (h2:bLt b c):bLt a c:=List.lt_trans h1 h2
theorem ud (a b:ByteArray):bLt a b∨a=b∨bLt b a:=by
 by_cases h1:bLt a b
 ·exact .inl h1
 ·by_cases h2:bLt b a
  ·exact .inr (.inr h2)
  ·refine .inr (.inl (xD ?_))
   exact List.le_antisymm (fun h=>h2 h) (fun h=>h1 h)
theorem nW:∀{l m:List ByteArray},l.Pairwise bLt→m.Pairwise bLt→(∀x,x∈l↔x∈m)→l=m
 |[],[],_,_,_=>rfl
 |[],y::m,_,_,h=>by have:=(h y).2 (by simp);simp at this
 |x::l,[],_,_,h=>by have:=(h x).1 (by simp);simp at this
 |x::l,y::m,hl,hm,h=>by
  obtain⟨l1,l2⟩:=List.pairwise_cons.1 hl
  obtain⟨m1,m2⟩:=List.pairwise_cons.1 hm
  have hxy:x=y:=by
   have hx:=(h x).1 (by simp)
   have hy:=(h y).2 (by simp)
   rcases List.mem_cons.1 hx with e|hx
   ·exact e
   ·rcases List.mem_cons.1 hy with e|hy
    ·exact e.symm
    ·exact absurd (pQ (l1 _ hy) (m1 _ hx)) (ka _)
  subst hxy
  congr 1
  refine nW l2 m2 fun z=>?_
  have hz:=h z
  simp only[List.mem_cons] at hz
  constructor
  ·intro hzl
   rcases hz.1 (.inr hzl) with e|e
   ·subst e;exact absurd (l1 _ hzl) (ka _)
   ·exact e
  ·intro hzm
   rcases hz.2 (.inr hzm) with e|e
   ·subst e;exact absurd (m1 _ hzm) (ka _)
   ·exact e
theorem se (l:List ByteArray) (z:ByteArray):z∈jW l↔z∈l:=by
 have h:(jW l).Perm ((l.map bOf).map sOf):=(List.mergeSort_perm _ _).map sOf
 rw[h.mem_iff,List.map_map]
 simp only[List.mem_map,Function.comp]
 constructor
 ·rintro⟨a,ha,rfl⟩;exact ha
 ·intro hz;exact⟨z,hz,rfl⟩
theorem rK (l:List ByteArray):(jW l).length=l.length:=by unfold jW;rw[List.length_map,List.length_mergeSort,List.length_map]
theorem mA {l:List ByteArray} (hn:l.Nodup):(jW l).Pairwise bLt:=by
 have hp:(jW l).Perm l:=by
  have:=(List.mergeSort_perm (l.map bOf) fun x y=>decide (x≤y)).map sOf
  rw[List.map_map] at this
  have e:l.map (sOf∘bOf)=l:=by
   conv=>rhs;rw[←List.map_id l]
   rfl
  rw[e] at this
  exact this
 have hnd:(jW l).Nodup:=hp.nodup_iff.2 hn
 have hs:((l.map bOf).mergeSort fun x y=>decide (x≤y)).Pairwise fun a b=>(decide (a≤b))=true:=by
  refine List.pairwise_mergeSort (fun a b c h1 h2=>?_) (fun a b=>?_) _
  ·simp only[decide_eq_true_eq] at h1 h2 ⊢;exact List.le_trans h1 h2
  ·simp only[Bool.or_eq_true,decide_eq_true_eq];exact List.le_total a b
 have hs2:(jW l).Pairwise fun a b=>bOf a≤bOf b:=by
  unfold jW
  rw[List.pairwise_map]
  exact hs.imp fun h=>by simpa [zc] using h
 refine(hs2.and hnd).imp fun⟨h1,h2⟩=>?_
 rcases ud _ _ with h|h|h
 ·exact h
 ·exact absurd h h2
 ·exact absurd h (fun hh=>h1 hh)
def ddp:List ByteArray→List ByteArray
 |[]=>[]
 |x::l=>if x∈l then ddp l else x::ddp l
theorem nc:∀(l:List ByteArray) (z:ByteArray),z∈ddp l↔z∈l
 |[],z=>by simp[ddp]
 |x::l,z=>by
  unfold ddp
  split
  ·rename_i h
   rw[nc l z,List.mem_cons]
   exact⟨.inr,fun hh=>hh.elim (fun e=>e▸h) id⟩
  ·rw[List.mem_cons,List.mem_cons,nc l z]
theorem lI:∀l:List ByteArray,(ddp l).Nodup
 |[]=>by simp[ddp]
 |x::l=>by
  unfold ddp
  split
  ·exact lI l
  ·rename_i h
   exact List.nodup_cons.2 ⟨by rw[nc];exact h,lI l⟩
def tX (l:List ByteArray):List ByteArray:=jW (ddp l)
theorem rR (l:List ByteArray) (z:ByteArray):z∈tX l↔z∈l:=by
 unfold tX
 rw[se,nc]
theorem sm (l:List ByteArray):(tX l).Pairwise bLt:=mA (lI l)
theorem t8 {l m:List ByteArray} (h:m.Pairwise bLt) (hm:∀x,x∈m↔x∈l):m=tX l:=nW h (sm l) fun x=>by rw[hm,rR]
theorem uD:∀l:List ByteArray,(ddp l).length≤l.length
 |[]=>by simp[ddp]
 |x::l=>by
  have:=uD l
  unfold ddp
  split<;>simp<;>omega
theorem yF (l:List ByteArray):(tX l).length≤l.length:=by unfold tX;rw[rK];exact uD l
def ixN:List ByteArray→ByteArray→Nat
 |[],_=>0
 |x::l,s=>if x=s then 0 else ixN l s+1
def ix (l:List ByteArray) (s:ByteArray):Int:=if s∈l then(ixN l s:Int) else-1
theorem pO {l:List ByteArray} {s:ByteArray}:0≤ix l s↔s∈l:=by
 unfold ix;split<;>simp_all
end Go.Vs
