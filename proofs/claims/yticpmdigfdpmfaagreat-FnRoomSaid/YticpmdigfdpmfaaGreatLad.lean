/- Part of the proofs of this seat's laws: Lad. No condition. -/
import Derived.Test.YticpmdigfdpmfaaGreatTy
import Derived.Test.YticpmdigfdpmfaaGreatTIRall
import Derived.Test.YticpmdigfdpmfaaGreatVh
import Derived.Test.YticpmdigfdpmfaaGreatVf
import Derived.Test.YticpmdigfdpmfaaGreatVg
import Derived.Sort.Walk0
import Derived.Test.YticpmdigfdpmfaaGreatProg
import Derived.Lib.Strings
import Derived.Lib.Slices
import Derived.Lib.Walk
import Derived.Lib.Bytealg
import Derived.Test.YticpmdigfdpmfaaGreatLac
import Derived.Shelf.Lay
import Derived.KernelRfl
import Derived.Test.YticpmdigfdpmfaaGreatLab
import Derived.Test.YticpmdigfdpmfaaGreatLaa
set_option linter.unusedVariables false
set_option linter.unusedSimpArgs false
set_option linter.unusedSectionVars false
namespace Go.Vs
set_option maxRecDepth 100000
def ir78:J:=js [jq 2 (.mv (.k (.c (.n 4))))] [0] (js [jq 3 (.bsl 4 []),jm 4 0,jq 5 (.app 4 32 false 3 4),jm 2 5] [2] .ret)
def rv78:List RV:=[.t 2]
open Go.Proofs Go.IntWalk
set_option linter.unusedVariables false
set_option maxHeartbeats 4000000
def cd (g:G) (t:TE) (a0:List Booking):Option (List Booking):=
 lP ([]) fun(l1:List Booking)=>
 gd (((l1.length+a0.length)*32≤70368744177664))<|
 lP (l1++a0) fun(l2:List Booking)=>
 some l2
theorem eP {g:G} {t:TE} {a0:List Booking} {r:List Booking} (hg:g=G.real) (ht:t=TE.real) (h:cd g t a0=some r):Fn Tryz.prog 78 [.c (.s 4 (t.r_Booking a0))] (.c (.o 4 (t.d_Booking r))):=by
 obtain⟨X,hX⟩:=aJ (.c (.o 4 (t.d_Booking r)):X);rw[←hX];refine aE (rvs:=rv78) (j:=ir78) Tryz.func78 rfl (by kernel_rfl) (nb rfl) (by kernel_rfl) ac ?_;intro g2 F hg2 hF;obtain rfl:g2=g:=hg2.unique.trans hg.symm;clear hg2;obtain⟨_,_,_,_,_,_,_,_,_,_,_,_,_,_,_,_,_,_,_,_,_,_,_,_,dlen⟩:=g2;obtain⟨_,_,_,_,_,_,_,_,_,_,_,d_Booking⟩:=t
 unfold cd at h;try dsimp only at h
 cbv;obtain⟨l1,hl1,h⟩:=ag h;try dsimp only at h
 refine ANew.mk (d_Booking l1) (dlen (d_Booking l1)) (by rw[←hl1];exact fD hg ht []) (by rw[←hl1];exact eJ hg ht []) ?_;cbv;obtain⟨hc1,h⟩:=ak h;refine AStep.mk (dC hg ht (ah hg ht _) (dQ hg ht _) hc1) ?_;cbv;obtain⟨l2,hl2,h⟩:=ag h;try dsimp only at h
 refine ANew.mk (d_Booking l2) (dlen (d_Booking l2)) (by rw[←hl2];exact fI hg ht (ah hg ht _) (dQ hg ht _)) (by rw[←hl2];exact eI hg ht (ah hg ht _) (dQ hg ht _)) ?_;cbv;obtain rfl:=Option.some.inj h;exact ARet.mk ⟨rfl,(ah hg ht _)⟩ hX.symm
end Go.Vs
namespace Go.Vs
variable {α β:Type}
theorem qz {enc:α→β} {lt:β→β→Bool} {le:α→α→Bool} {d0:β} (hlt:∀a b,lt (enc b) (enc a)= !le a b) (htr:∀a b c,le a b=true→le b c=true→le a c=true) (hto:∀a b,(le a b||le b a)=true) (l:List α) (han:∀a∈l,∀b∈l,le a b=true→le b a=true→a=b) (d':Nat→β) (hs:Sw 0 l.length (fun i=>(l.map enc).getD i d0) d') (ho:SOn lt d' 0 l.length):∀i,i<l.length→((l.mergeSort le).map enc)[i]?=some (d' i):=by
 have hp:=hs.perm (Nat.le_refl _)
 have e0:(List.range l.length).map (fun i=>(l.map enc).getD i d0)=l.map enc:=by
  refine List.ext_getElem? fun i=>?_
  by_cases hi:i<l.length
  ·rw[List.getElem?_map,List.getElem?_range hi,Option.map_some,List.getD_eq_getElem?_getD,List.getElem?_eq_getElem (by simpa using hi)];rfl
  ·rw[List.getElem?_eq_none (by simp;omega),List.getElem?_eq_none (by simp;omega)]
 rw[e0] at hp
 have hm:∀i,i<l.length→∃a,a∈l∧d' i=enc a:=fun i hi=>by
  have:d' i∈(List.range l.length).map d':=List.mem_map.2 ⟨i,List.mem_range.2 hi,rfl⟩
  obtain⟨a,hal,ha⟩:=List.mem_map.1 (hp.mem_iff.1 this)
  exact⟨a,hal,ha.symm⟩
 have hpw:((List.range l.length).map d').Pairwise fun x y=>lt y x=false:=by
  rw[List.pairwise_map]
  refine List.Pairwise.imp_of_mem (R:=fun i j=>i<j) (fun{i j} hi hj hij=>?_) List.pairwise_lt_range
  exact ho i j (Nat.zero_le _) hij (List.mem_range.1 hj)
 have hms:((l.mergeSort le).map enc).Pairwise fun x y=>lt y x=false:=by
  rw[List.pairwise_map]
  refine List.Pairwise.imp (fun{a b} h=>?_) (List.pairwise_mergeSort htr hto l)
  rw[hlt,h];rfl
 have hpm:((List.range l.length).map d').Perm ((l.mergeSort le).map enc):=hp.trans ((List.mergeSort_perm l le).map enc).symm
 have he:(List.range l.length).map d'=(l.mergeSort le).map enc:=by
  refine List.Perm.eq_of_pairwise (le:=fun x y=>lt y x=false) (fun x y hx hy h1 h2=>?_) hpw hms hpm
  obtain⟨i,hi,rfl⟩:=List.mem_map.1 hx
  obtain⟨a,hal,ha⟩:=hm i (List.mem_range.1 hi)
  obtain⟨b,hbl,rfl⟩:=List.mem_map.1 hy
  rw[ha] at h1 h2 ⊢
  rw[hlt] at h1 h2
  rw[han a hal b ((List.mergeSort_perm l le).mem_iff.1 hbl) (by simpa using h1) (by simpa using h2)]
 intro i hi
 rw[←he,List.getElem?_map,List.getElem?_range hi];rfl
end Go.Vs
namespace Go.Vs
open Go.IntWalk
theorem zX {a b:ByteArray} (h:bOf a=bOf b):a=b:=by
 have:=congrArg sOf h
 rwa [xI,xI] at this
instance memD (x:ByteArray):∀l:List ByteArray,Decidable (x∈l)
 |[]=>.isFalse (by simp)
 |y::l=>match decEq x y,memD x l with
  |.isTrue h,_=>.isTrue (by simp[h])
  |.isFalse h,.isTrue h2=>.isTrue (by simp[h2])
  |.isFalse h,.isFalse h2=>.isFalse (by simp[h,h2])
theorem j5 (a b:ByteArray):G.real.seq a b=decide (a=b):=by
 rw[E8,Lib.toList_data,Lib.toList_data]
 by_cases h:a=b
 ·subst h;simp
 ·have:¬a.data.toList=b.data.toList:=fun e=>h (zX e)
  rw[decide_eq_false h]
  exact beq_false_of_ne this
def bLt (a b:ByteArray):Prop:=bOf a<bOf b
instance (a b:ByteArray):Decidable (bLt a b):=inferInstanceAs (Decidable (bOf a<bOf b))
theorem CL (a b:ByteArray):G.real.slt a b=decide (bLt a b):=by
 show Op.bytesLess a.toList b.toList=_
 rw[Go.Proofs.bytesLess_eq,Lib.toList_data,Lib.toList_data]
 rfl
theorem lT (a:ByteArray):¬bLt a a:=List.lt_irrefl _
theorem sE {a b c:ByteArray} (h1:bLt a b) (h2:bLt b c):bLt a c:=List.lt_trans h1 h2
theorem xM (a b:ByteArray):bLt a b∨a=b∨bLt b a:=by
 by_cases h1:bLt a b
 ·exact .inl h1
 ·by_cases h2:bLt b a
  ·exact .inr (.inr h2)
  ·refine .inr (.inl (zX ?_))
   exact List.le_antisymm (fun h=>h2 h) (fun h=>h1 h)
theorem pD:∀{l m:List ByteArray},l.Pairwise bLt→m.Pairwise bLt→(∀x,x∈l↔x∈m)→l=m
 |[],[],_,_,_=>rfl
 |[],y::m,_,_,h=>by have:=(h y).2 (by simp);simp at this
 |x::l,[],_,_,h=>by have:=(h x).1 (by simp);simp at this
 |x::l,y::m,hl,hm,h=>by
  obtain⟨l1,l2⟩:=List.pairwise_cons.1 hl
  obtain⟨m1,m2⟩:=List.pairwise_cons.1 hm
  have hxy:x=y:=by
   have hx:=(h x).1 (by simp)
   have hy:=(h y).2 (by simp)
   rcases List.mem_cons.1 hx with e|hx
   ·exact e
   ·rcases List.mem_cons.1 hy with e|hy
    ·exact e.symm
    ·exact absurd (sE (l1 _ hy) (m1 _ hx)) (lT _)
  subst hxy
  congr 1
  refine pD l2 m2 fun z=>?_
  have hz:=h z
  simp only[List.mem_cons] at hz
  constructor
  ·intro hzl
   rcases hz.1 (.inr hzl) with e|e
   ·subst e;exact absurd (l1 _ hzl) (lT _)
   ·exact e
  ·intro hzm
   rcases hz.2 (.inr hzm) with e|e
   ·subst e;exact absurd (m1 _ hzm) (lT _)
   ·exact e
theorem vx (l:List ByteArray) (z:ByteArray):z∈lE l↔z∈l:=by
 have h:(lE l).Perm ((l.map bOf).map sOf):=(List.mergeSort_perm _ _).map sOf
 rw[h.mem_iff,List.map_map]
 simp only[List.mem_map,Function.comp]
 constructor
 ·rintro⟨a,ha,rfl⟩;exact ha
 ·intro hz;exact⟨z,hz,rfl⟩
theorem uG (l:List ByteArray):(lE l).length=l.length:=by unfold lE;rw[List.length_map,List.length_mergeSort,List.length_map]
theorem oH {l:List ByteArray} (hn:l.Nodup):(lE l).Pairwise bLt:=by
 have hp:(lE l).Perm l:=by
  have:=(List.mergeSort_perm (l.map bOf) fun x y=>decide (x≤y)).map sOf
  rw[List.map_map] at this
  have e:l.map (sOf∘bOf)=l:=by
   conv=>rhs;rw[←List.map_id l]
   rfl
  rw[e] at this
  exact this
 have hnd:(lE l).Nodup:=hp.nodup_iff.2 hn
 have hs:((l.map bOf).mergeSort fun x y=>decide (x≤y)).Pairwise fun a b=>(decide (a≤b))=true:=by
  refine List.pairwise_mergeSort (fun a b c h1 h2=>?_) (fun a b=>?_) _
  ·simp only[decide_eq_true_eq] at h1 h2 ⊢;exact List.le_trans h1 h2
  ·simp only[Bool.or_eq_true,decide_eq_true_eq];exact List.le_total a b
 have hs2:(lE l).Pairwise fun a b=>bOf a≤bOf b:=by
  unfold lE
  rw[List.pairwise_map]
  exact hs.imp fun h=>by simpa [Cj] using h
 refine(hs2.and hnd).imp fun⟨h1,h2⟩=>?_
 rcases xM _ _ with h|h|h
 ·exact h
 ·exact absurd h h2
 ·exact absurd h (fun hh=>h1 hh)
def ddp:List ByteArray→List ByteArray
 |[]=>[]
 |x::l=>if x∈l then ddp l else x::ddp l
theorem pk:∀(l:List ByteArray) (z:ByteArray),z∈ddp l↔z∈l
 |[],z=>by simp[ddp]
 |x::l,z=>by
  unfold ddp
  split
  ·rename_i h
   rw[pk l z,List.mem_cons]
   exact⟨.inr,fun hh=>hh.elim (fun e=>e▸h) id⟩
  ·rw[List.mem_cons,List.mem_cons,pk l z]
theorem nU:∀l:List ByteArray,(ddp l).Nodup
 |[]=>by simp[ddp]
 |x::l=>by
  unfold ddp
  split
  ·exact nU l
  ·rename_i h
   exact List.nodup_cons.2 ⟨by rw[pk];exact h,nU l⟩
def vJ (l:List ByteArray):List ByteArray:=lE (ddp l)
theorem uR (l:List ByteArray) (z:ByteArray):z∈vJ l↔z∈l:=by
 unfold vJ
 rw[vx,pk]
theorem ub (l:List ByteArray):(vJ l).Pairwise bLt:=oH (nU l)
theorem wM {l m:List ByteArray} (h:m.Pairwise bLt) (hm:∀x,x∈m↔x∈l):m=vJ l:=pD h (ub l) fun x=>by rw[hm,uR]
theorem w7:∀l:List ByteArray,(ddp l).length≤l.length
 |[]=>by simp[ddp]
 |x::l=>by
  have:=w7 l
  unfold ddp
  split<;>simp<;>omega
theorem Bi (l:List ByteArray):(vJ l).length≤l.length:=by unfold vJ;rw[uG];exact w7 l
def ixN:List ByteArray→ByteArray→Nat
 |[],_=>0
 |x::l,s=>if x=s then 0 else ixN l s+1
theorem cj:∀{l:List ByteArray} {s:ByteArray},s∈l→ixN l s<l.length∧l[ixN l s]?=some s
 |x::l,s,h=>by
  unfold ixN
  split
  ·rename_i e;subst e;simp
  ·rename_i e
   have h2:=cj ((List.mem_cons.1 h).resolve_left (fun hh=>e hh.symm))
   simpa using h2
def ix (l:List ByteArray) (s:ByteArray):Int:=if s∈l then(ixN l s:Int) else-1
theorem pY {l:List ByteArray} {s:ByteArray}:ix l s<0↔s∉l:=by
 unfold ix;split<;>simp_all
theorem gN {l:List ByteArray} {s:ByteArray} (h:s∈l):ix l s=(ixN l s:Int):=by unfold ix;rw[if_pos h]
open Go.Proofs Go.RowKit
set_option maxHeartbeats 1000000
set_option maxRecDepth 100000
open Go.Proofs Go.IntWalk
set_option linter.unusedVariables false
set_option maxHeartbeats 4000000
end Go.Vs
namespace Go.Vs
open Go.IntWalk
def oX (x y:Int):Int:=if x<y then-1 else if y<x then 1 else 0
theorem xE (x y:Int):dp G.real TE.real x y=oX x y:=by
 unfold dp oX
 simp only[cP,ao]
def nn:List Int→Int
 |[]=>0
 |x::l=>if x=0 then nn l else x
theorem uy (l:List Int):mO G.real TE.real l=nn l:=by
 unfold mO
 simp only[aP]
 induction l with
 |nil=>rfl
 |cons x l ih=>
  rw[f8,nn]
  simp only[ib,ao]
  by_cases h:x=0
  ·rw[if_pos h,if_pos h];exact ih
  ·rw[if_neg h,if_neg h];rfl
end Go.Vs
namespace Go.Vs
open Go.IntWalk
structure C3 {α:Type} (c:α→α→Int):Prop where
 anti:∀a b,c b a= -c a b
 tr:∀a b d,c a b≤0→c b d≤0→c a d≤0
theorem C3.refl {α:Type} {c:α→α→Int} (h:C3 c) (a:α):c a a=0:=by have:=h.anti a a;omega
def lex {α:Type} (c d:α→α→Int) (a b:α):Int:=if c a b=0 then d a b else c a b
theorem C3.lex {α:Type} {c d:α→α→Int} (h:C3 c) (k:C3 d):C3 (lex c d):={
 anti a b:=by
  unfold Vs.lex
  have h1:=h.anti a b
  have h2:=k.anti a b
  split<;>split<;>omega
 tr a b e:=by
  unfold Vs.lex
  have h1:=h.tr a b e
  have h2:=h.tr e a b
  have h3:=h.tr b e a
  have h4:=h.anti a b
  have h5:=h.anti a e
  have h6:=h.anti b e
  have h7:=k.tr a b e
  split<;>split<;>split<;>omega }
theorem C3.of {α β:Type} {c:β→β→Int} (h:C3 c) (f:α→β):C3 fun a b=>c (f a) (f b):=⟨fun _ _=>h.anti _ _,fun _ _ _=>h.tr _ _ _⟩
theorem tn:C3 oX :={
 anti a b:=by unfold oX;split<;>split<;>(try split)<;>omega
 tr a b d:=by unfold oX;split<;>split<;>(try split)<;>(try split)<;>(try split)<;>omega }
theorem nw {a b:Int} (h:oX a b=0):a=b:=by unfold oX at h;split at h<;>(try split at h)<;>omega
end Go.Vs
namespace Go.Vs
open Go.IntWalk
def cmB:Booking→Booking→Int:=lex (fun a b:Booking=>oX a.Trip.Day b.Trip.Day) (lex (fun a b=>oX a.Trip.Leg b.Trip.Leg) (fun a b=>oX a.Thing b.Thing))
theorem fR:C3 cmB:=(tn.of _).lex ((tn.of _).lex (tn.of _))
theorem CP (a b:Booking):ba G.real TE.real a b=cmB a b:=by
 unfold ba cmB lex
 simp only[aP,xE,uy,nn,oX]
 by_cases h1:a.Trip.Day=b.Trip.Day
 ·by_cases h2:a.Trip.Leg=b.Trip.Leg
  ·by_cases h3:a.Thing=b.Thing
   ·simp[h1,h2,h3]
   ·by_cases h4:a.Thing<b.Thing
    ·simp[h1,h2,h3,h4]
    ·have:b.Thing<a.Thing:=by omega
     simp[h1,h2,h3,h4,this]
  ·by_cases h4:a.Trip.Leg<b.Trip.Leg
   ·simp[h1,h2,h4]
   ·have:b.Trip.Leg<a.Trip.Leg:=by omega
    simp[h1,h2,h4,this]
 ·by_cases h4:a.Trip.Day<b.Trip.Day
  ·simp[h1,h4]
  ·have:b.Trip.Day<a.Trip.Day:=by omega
   simp[h1,h4,this]
theorem vd {a b:Booking} (h:cmB a b=0):a.Trip.Day=b.Trip.Day∧a.Trip.Leg=b.Trip.Leg∧a.Thing=b.Thing:=by
 unfold cmB lex at h
 split at h
 ·rename_i h1
  split at h
  ·rename_i h2;exact⟨nw h1,nw h2,nw h⟩
  ·rename_i h2;exact absurd h h2
 ·rename_i h1;exact absurd h h1
def leB (a b:Booking):Bool:= !decide (cmB b a<0)
theorem jB (a b:Booking):leB a b=true↔cmB a b≤0:=by
 have:=fR.anti a b
 simp[leB];omega
theorem zK (a b c:Booking) (h1:leB a b=true) (h2:leB b c=true):leB a c=true:=by
 rw[jB] at h1 h2 ⊢
 exact fR.tr _ _ _ h1 h2
theorem AB (a b:Booking):(leB a b||leB b a)=true:=by
 have:=fR.anti a b
 rw[Bool.or_eq_true,jB,jB];omega
def KeyB (l:List Booking):Prop:=l.Pairwise fun a b=>cmB a b≠0
instance (l:List Booking):Decidable (KeyB l):=inferInstanceAs (Decidable (l.Pairwise fun a b=>cmB a b≠0))
theorem KeyB.uniq:∀{l:List Booking},KeyB l→∀a∈l,∀b∈l,leB a b=true→leB b a=true→a=b
 |x::l,h,a,ha,b,hb,h1,h2=>by
  obtain⟨k1,k2⟩:=List.pairwise_cons.1 h
  have e:=fR.anti a b
  rw[jB] at h1 h2
  have z:cmB a b=0:=by omega
  have z2:cmB b a=0:=by omega
  rcases List.mem_cons.1 ha with ea|ha2
  ·rcases List.mem_cons.1 hb with eb|hb2
   ·rw[ea,eb]
   ·rw[ea] at z;exact absurd z (k1 b hb2)
  ·rcases List.mem_cons.1 hb with eb|hb2
   ·rw[eb] at z2;exact absurd z2 (k1 a ha2)
   ·exact KeyB.uniq k2 a ha2 b hb2 ((jB a b).2 h1) ((jB b a).2 h2)
end Go.Vs
namespace Go.Vs
open Go.IntWalk
set_option maxRecDepth 100000
open Go.Proofs Go.IntWalk
set_option linter.unusedVariables false
set_option maxHeartbeats 4000000
end Go.Vs
namespace Go.Proofs
open Go.Shelf Go.RowKit Go.Lib Go.Sort
set_option maxHeartbeats 2000000
set_option maxRecDepth 100000
def Tryz.lays8_ren : Go.Shelf.Ren := ⟨fun | 8 => 79 | 13 => 132 | 14 => 133 | 16 => 135 | 15 => 134 | 29 => 170 | 30 => 171 | 42 => 179 | 49 => 183 | n => n, fun | 20 => 20 | 26 => 108 | 36 => 146 | 0 => 0 | 38 => 148 | 42 => 152 | 3 => 3 | 4 => 4 | 47 => 170 | 17 => 17 | 33 => 143 | 34 => 144 | 89 => 210 | 12 => 12 | 56 => 185 | 82 => 203 | 5 => 5 | 83 => 204 | 84 => 205 | 85 => 206 | 86 => 207 | 87 => 208 | n => n, fun | n => n⟩
theorem Tryz.lays8 : Go.Proofs.LaysGt.n8 Tryz.prog Tryz.lays8_ren := {
  mixed := by kernel_rfl
  f8 := Tryz.func79.trans (congrArg some (by kernel_rfl))
  f13 := Tryz.func132.trans (congrArg some (by kernel_rfl))
  f14 := Tryz.func133.trans (congrArg some (by kernel_rfl))
  f15 := Tryz.func134.trans (congrArg some (by kernel_rfl))
  f16 := Tryz.func135.trans (congrArg some (by kernel_rfl))
  f29 := Tryz.func170.trans (congrArg some (by kernel_rfl))
  f30 := Tryz.func171.trans (congrArg some (by kernel_rfl))
  f42 := Tryz.func179.trans (congrArg some (by kernel_rfl))
  f49 := Tryz.func183.trans (congrArg some (by kernel_rfl))
  t0 := Tryz.underlying0
  a0 := Tryz.isAgg0
  z0 := Tryz.sizeOf0
  v0 := Tryz.zeroValue0
  i0 := by kernel_rfl
  t3 := Tryz.underlying3
  a3 := Tryz.isAgg3
  z3 := Tryz.sizeOf3
  v3 := Tryz.zeroValue3
  i3 := by kernel_rfl
  t4 := Tryz.underlying4
  a4 := Tryz.isAgg4
  z4 := Tryz.sizeOf4
  v4 := Tryz.zeroValue4
  i4 := by kernel_rfl
  t5 := Tryz.underlying5
  a5 := Tryz.isAgg5
  z5 := Tryz.sizeOf5
  v5 := Tryz.zeroValue5
  i5 := by kernel_rfl
  t12 := Tryz.underlying12
  a12 := Tryz.isAgg12
  z12 := Tryz.sizeOf12
  v12 := Tryz.zeroValue12
  i12 := by kernel_rfl
  t17 := Tryz.underlying17
  a17 := Tryz.isAgg17
  z17 := Tryz.sizeOf17
  v17 := Tryz.zeroValue17
  i17 := by kernel_rfl
  t20 := Tryz.underlying20
  a20 := Tryz.isAgg20
  z20 := Tryz.sizeOf20
  v20 := Tryz.zeroValue20
  i20 := by kernel_rfl
  t26 := Tryz.underlying108
  a26 := Tryz.isAgg108
  z26 := Tryz.sizeOf108
  v26 := Tryz.zeroValue108
  i26 := by kernel_rfl
  t33 := Tryz.underlying143
  a33 := Tryz.isAgg143
  z33 := Tryz.sizeOf143
  v33 := Tryz.zeroValue143
  i33 := by kernel_rfl
  t34 := Tryz.underlying144
  a34 := Tryz.isAgg144
  z34 := Tryz.sizeOf144
  v34 := Tryz.zeroValue144
  i34 := by kernel_rfl
  t36 := Tryz.underlying146
  a36 := Tryz.isAgg146
  z36 := Tryz.sizeOf146
  v36 := Tryz.zeroValue146
  i36 := by kernel_rfl
  t38 := Tryz.underlying148
  a38 := Tryz.isAgg148
  z38 := Tryz.sizeOf148
  v38 := Tryz.zeroValue148
  i38 := by kernel_rfl
  t42 := Tryz.underlying152
  a42 := Tryz.isAgg152
  z42 := Tryz.sizeOf152
  v42 := Tryz.zeroValue152
  i42 := by kernel_rfl
  t47 := Tryz.underlying170
  a47 := Tryz.isAgg170
  z47 := Tryz.sizeOf170
  v47 := Tryz.zeroValue170
  i47 := by kernel_rfl
  t56 := Tryz.underlying185
  a56 := Tryz.isAgg185
  z56 := Tryz.sizeOf185
  v56 := Tryz.zeroValue185
  i56 := by kernel_rfl
  t82 := Tryz.underlying203
  a82 := Tryz.isAgg203
  z82 := Tryz.sizeOf203
  v82 := Tryz.zeroValue203
  i82 := by kernel_rfl
  t83 := Tryz.underlying204
  a83 := Tryz.isAgg204
  z83 := Tryz.sizeOf204
  v83 := Tryz.zeroValue204
  i83 := by kernel_rfl
  t84 := Tryz.underlying205
  a84 := Tryz.isAgg205
  z84 := Tryz.sizeOf205
  v84 := Tryz.zeroValue205
  i84 := by kernel_rfl
  t85 := Tryz.underlying206
  a85 := Tryz.isAgg206
  z85 := Tryz.sizeOf206
  v85 := Tryz.zeroValue206
  i85 := by kernel_rfl
  t86 := Tryz.underlying207
  a86 := Tryz.isAgg207
  z86 := Tryz.sizeOf207
  v86 := Tryz.zeroValue207
  i86 := by kernel_rfl
  t87 := Tryz.underlying208
  a87 := Tryz.isAgg208
  z87 := Tryz.sizeOf208
  v87 := Tryz.zeroValue208
  i87 := by kernel_rfl
  t89 := Tryz.underlying210
  a89 := Tryz.isAgg210
  z89 := Tryz.sizeOf210
  v89 := Tryz.zeroValue210
  i89 := by kernel_rfl }
theorem Tryz.ssN:Tryz.lays8_ren.f 8=79:=by kernel_rfl
theorem Tryz.ss10:∀args W,(callFunc 169 args).run Tryz.prog W=((Extern.ReflectliteSwapper.swap false args).run Tryz.prog W).andThen fun v w'=>.ok (.value v) w':=
 fun args W=>run_callFunc_extern Tryz.func169 (by kernel_rfl) (by kernel_rfl) (by kernel_rfl) (e:=Extern.ReflectliteSwapper.swap false) (by kernel_rfl) args W
end Go.Proofs
namespace Go.Vs
open Go Go.Proofs Go.IntWalk
set_option linter.unusedVariables false
set_option maxRecDepth 100000
def ir80:J:=js [jm 5 kf] [0,1,2] (.seq (.reg (some [[],[],[0,1],[0,1,2],[],[],[4,5],[4,5,6],[0,1,2,3,4,5,6,7],[0,1,2,3,4,5,6,7,8],[0,1,2,3,4,5,6,7,8,9]]) [jk 6 2,jm 7 0,ja 8 4 6 7,jl 9 4 8,jk 10 2,jm 11 1,ja 12 4 10 11,jl 13 4 12,jc 14 81 [9,13],jb 15 .lss .i 14 (ki 0),jm 5 15] [5]) .ret)
def rv80:List RV:=[.t 5]
open Go.Proofs Go.IntWalk
set_option maxHeartbeats 4000000
def kK (g:G) (t:TE) (a0:Int) (a1:Int) (a2:List Booking):Option Bool:=
 gd (((0:Int)≤a0))<|
 gt a2 (g.nat a0) fun x1=>
 gd (((0:Int)≤a1))<|
 gt a2 (g.nat a1) fun x2=>
 lP (ba g t (Booking.mk x1.Thing (Trip.mk x1.Trip.Leg x1.Trip.Day) x1.Weight) (Booking.mk x2.Thing (Trip.mk x2.Trip.Leg x2.Trip.Day) x2.Weight)) fun x3=>
 some (g.lt x3 0)
theorem ra {g:G} {t:TE} {a0:Int} {a1:Int} {a2:List Booking} {r:Bool} (hg:g=G.real) (ht:t=TE.real) (h:kK g t a0 a1 a2=some r):Fn Tryz.prog 80 [.c (.v (.int .i64 a0)),.c (.v (.int .i64 a1)),.q [.s 4 (t.r_Booking a2)]] (.c (.r (.v (.bool r)))):=by
 obtain⟨X,hX⟩:=aJ (.c (.r (.v (.bool r))):X);rw[←hX];refine aE (rvs:=rv80) (j:=ir80) Tryz.func80 rfl (by kernel_rfl) (nb rfl) (by kernel_rfl) ac ?_;intro g2 F hg2 hF;obtain rfl:g2=g:=hg2.unique.trans hg.symm;clear hg2;obtain⟨_⟩:=g2;obtain⟨_⟩:=t
 unfold kK at h;try dsimp only at h
 cbv;obtain⟨hc1,h⟩:=ak h;refine AStep.mk hc1 ?_;cbv;obtain⟨x1,hx1,h⟩:=aV h;obtain⟨x1_Thing,⟨x1_Trip_Leg,x1_Trip_Day⟩,x1_Weight⟩:=x1;try dsimp only at h
 refine AGet.mk _ (e7 hg ht hx1) ?_;cbv;obtain⟨hc2,h⟩:=ak h;refine AStep.mk hc2 ?_;cbv;obtain⟨x2,hx2,h⟩:=aV h;obtain⟨x2_Thing,⟨x2_Trip_Leg,x2_Trip_Day⟩,x2_Weight⟩:=x2;try dsimp only at h
 refine AGet.mk _ (e7 hg ht hx2) ?_;cbv;obtain⟨x3,hx3,h⟩:=ag h;try dsimp only at h
 refine ACall.mk _ _ rfl (hF _ _ _ (gK hg ht hx3)) (.inl rfl) (nb rfl) ?_;cbv;obtain rfl:=Option.some.inj h;exact ARet.mk trivial hX.symm
end Go.Vs
namespace Go.Proofs
open Go.Shelf Go.RowKit Go.Lib Go.Sort
set_option maxHeartbeats 2000000
set_option maxRecDepth 100000
noncomputable def Tryz.sbT:TypeInfo:=(Tryz.prog.info? 40).get (by kernel_rfl)
noncomputable def Tryz.sbE:TypeInfo:=(Tryz.prog.info? 102).get (by kernel_rfl)
theorem Tryz.sb1:Tryz.prog.info? 40=some Tryz.sbT:=by kernel_rfl
theorem Tryz.sb2:Tryz.sbT.desc=.slice 102:=by kernel_rfl
theorem Tryz.sb3:Tryz.prog.packed 40=false:=by kernel_rfl
theorem Tryz.sb4:Tryz.prog.info? 102=some Tryz.sbE:=by kernel_rfl
theorem Tryz.sb5:∀w,(Extern.Rtype.kind 102).run Tryz.prog w=.ok 25 w:=fun _=>by kernel_rfl
theorem Tryz.sb6:Tryz.sbE.size=4:=by kernel_rfl
theorem Tryz.sb7:∀w,(isAgg 102).run Tryz.prog w=.ok true w:=fun _=>by kernel_rfl
theorem Tryz.sb8:∀args w,(callFunc 80 args).run Tryz.prog w=.ok (.enter 80 args) w:=enters_of Tryz.func80 (by kernel_rfl) rfl
theorem Tryz.sb9 (n:Nat) (h2:2≤n):Lib.swapperK n Tryz.sbE 25=9:=by
 have a:Tryz.sbE.hasPointers=false:=by kernel_rfl
 have b:Tryz.sbE.bytes=32:=by kernel_rfl
 have c:(n==0)=false:=by simp;omega
 have d:(n==1)=false:=by simp;omega
 simp[Lib.swapperK,a,b,c,d]
theorem Tryz.sb11 (n:Nat) (h2:2≤n):Tryz.prog.funcs.findIdx? (·.name== "internal/reflectlite" ++ ".Swapper$" ++toString (swapperK n Tryz.sbE 25))=some 169:=by rw[Tryz.sb9 n h2];kernel_rfl
theorem Tryz.sb12 (n:Nat) (h:n≤1):∃f,Tryz.prog.funcs.findIdx? (·.name== "internal/reflectlite" ++ ".Swapper$" ++toString (swapperK n Tryz.sbE 25))=some f:=by
 rcases Nat.le_one_iff_eq_zero_or_eq_one.1 h with rfl|rfl
 ·exact⟨161,by rw[show swapperK 0 Tryz.sbE 25=1 from rfl];kernel_rfl⟩
 ·exact⟨162,by rw[show swapperK 1 Tryz.sbE 25=2 from rfl];kernel_rfl⟩
end Go.Proofs
namespace Go.Vs
open Go Go.Proofs Go.IntWalk
set_option linter.unusedVariables false
def mY (x:Booking):List Value:=[.int .i64 x.Thing,.int .i64 x.Trip.Leg,.int .i64 x.Trip.Day,.int .i64 x.Weight]
def sbI:Option Value→Int
 |some (.int _ n)=>n
 |_=>0
def it (l:List Value):Booking:=⟨sbI l[0]?,⟨sbI l[1]?,sbI l[2]?⟩,sbI l[3]?⟩
theorem sG (x:Booking):it (mY x)=x:=rfl
def wy (x y:List Value):Bool:=decide (cmB (it x) (it y)<0)
theorem CZ:Swo wy :={
 asym x y h:=by
  have:=fR.anti (it x) (it y)
  simp only[wy,decide_eq_true_eq,decide_eq_false_iff_not] at h ⊢;omega
 trans x y z h1 h2:=by
  have a:=fR.tr (it x) (it y) (it z)
  have b:=fR.anti (it x) (it y)
  have c:=fR.anti (it y) (it z)
  have d:=fR.anti (it x) (it z)
  simp only[wy,decide_eq_false_iff_not] at h1 h2 ⊢;omega }
theorem xB (l:List Booking):TE.real.d_Booking l=(l.map mY).map mL:=by
 rw[List.map_map];rfl
theorem Cf (l:List Booking):TE.real.r_Booking l=(l.map mY).map rk:=by
 rw[List.map_map];rfl
theorem CV (l:List Booking) (i j:Nat) (x y:List Value) (h1:(l.map mY)[i]?=some x) (h2:(l.map mY)[j]?=some y):Fn Tryz.prog 80 [.c (.v (.int .i64 i)),.c (.v (.int .i64 j)),.q [.s 4 ((l.map mY).map rk)]] (.c (.r (.v (.bool (wy x y))))):=by
 rw[List.getElem?_map] at h1 h2
 obtain⟨a,a1,rfl⟩:=Option.map_eq_some_iff.1 h1
 obtain⟨b,b1,rfl⟩:=Option.map_eq_some_iff.1 h2
 rw[←Cf]
 refine ra rfl rfl ?_
 have ai:i<l.length:=(List.getElem?_eq_some_iff.1 a1).1
 have bi:j<l.length:=(List.getElem?_eq_some_iff.1 b1).1
 unfold kK
 simp only[cw,Int.toNat_natCast,cP,aP,CP]
 rw[aj (by omega),ax a1,aj (by omega),ax b1]
 rfl
def mt (g:G) (t:TE) (a0:List Booking):Option (List Booking):=gd (a0.length<1152921504606846976)<|gd (KeyB a0)<|some (a0.mergeSort leB)
theorem sI {g:G} {t:TE} {a0 r:List Booking} (h:mt g t a0=some r):r.length=a0.length:=by
 obtain⟨_,h⟩:=ak h
 obtain⟨_,h⟩:=ak h
 cases h
 exact List.length_mergeSort _
theorem vH {g:G} {t:TE} {a0 r:List Booking} (hg:g=G.real) (ht:t=TE.real) (h:mt g t a0=some r):Aj Tryz.prog 79 40 80 4 (t.d_Booking a0) (t.d_Booking r):=by
 obtain⟨hl,h⟩:=ak h;obtain⟨hk,h⟩:=ak h;cases h
 subst ht;rw[xB,xB]
 have h:=Ei (enc:=mY) (lt:=wy) Tryz.lays8 40 102 Tryz.sbT Tryz.sbE Tryz.sb1 Tryz.sb2 Tryz.sb3 Tryz.sb4 25 Tryz.sb5 4 (by decide) Tryz.sb6 Tryz.sb7 CZ 80 Tryz.sb8 169 Tryz.sb11 Tryz.sb12 false Tryz.ss10
  (fun a=>⟨rfl,fun v hv=>by simp only[mY,List.mem_cons,List.not_mem_nil,or_false] at hv;rcases hv with rfl|rfl|rfl|rfl<;>rfl⟩) CV a0 (a0.mergeSort leB) hl (List.length_mergeSort _)
  (qz (enc:=mY) (lt:=wy) (le:=leB) (d0:=[]) (fun a b=>by unfold wy leB;rw[sG,sG,Bool.not_not]) zK AB a0 hk.uniq)
 rw[Tryz.ssN] at h;exact h
set_option maxRecDepth 100000
def ir28:J:=js [jq 5 (.box 0),jq 10 (.mv (.k (.c (.n 4)))),jm 11 kf] [1,2,3,4,5] (.seq (js [jl 15 3 5,jm 16 1,jc 17 31 [15,16],jq 18 (.not 17),jm 19 18,jv 20 19 (.mv 4),jv 21 19 (.len false 20),jv 22 19 (.bin .gtr .i 21 (ki 20)),jq 23 (.pick 19 kt 22)] [1,2,3,4,5,23] (.cond 23 (js [jm 24 1,jc 25 78 [24],jm 10 25,jm 11 kf] [10,11] .ret) .skip)) (js [jm 26 1,jc 27 78 [26],jq 12 (.alloc [.n 4]),jp (.st 1 12 27)] [1,2,3,4,5,12] (.seq (js [jm 28 4,jq 29 (.len false 28),jm 30 (ki 0)] [1,2,3,5,12,28,29,30] (.bl 0 (js [jb 31 .lss .i 30 29] [1,2,3,5,12,28,29,30,31] (.seq (.cond 31 .skip (.exit 0)) (.seq (.block 1 (js [ja 32 2 28 30,jl 33 2 32,jq 14 (.alloc [.r (.v (.int .i64 0)),.r (.v (.int .i64 0))]),jp (.st 2 14 33)] [1,2,3,5,12,14,28,29,30] (.reg none [jk 34 12,jm 35 2,jl 36 2 14,jm 37 3,jq 38 (.bld [.r (.v (.int .i64 0)),.r (.v (.int .i64 0)),.r (.v (.int .i64 0)),.r (.v (.int .i64 0))] [(0,1,35),(1,2,36),(3,1,37)]),jq 39 (.bsl 4 [38]),jq 40 (.app 4 32 true 34 39),jp (.st 1 12 40)] [1,2,3,5,12,28,29,30]))) (.reg none [jb 41 .add .i 30 (ki 1),jm 30 41] [1,2,3,5,12,28,29,30])))))) (js [jk 42 12,jq 43 (.ifc 40 42),jq 44 (.clo true 80 [12]),jq 45 (.sst 79 43 44)] [1,5,12] (.seq (js [jl 46 3 5,jk 47 12,jc 48 31 [46,47],jq 49 (.not 48)] [1,12,49] (.cond 49 (js [jm 50 1,jc 51 78 [50],jm 10 51,jm 11 kf] [10,11] .ret) .skip)) (js [jk 52 12,jm 10 52,jm 11 kt] [10,11] .ret))))))
def rv28:List RV:=[.t 10,.t 11]
open Go.Proofs Go.IntWalk
set_option maxHeartbeats 4000000
def dg (g:G) (t:TE) (a2:Int) (a3:Int):List Trip→List Booking→Option (List Booking)
 |[],w1=>
  some w1
 |z1::ls1,w1=>
  lP ([(Booking.mk a2 z1 a3)]) fun(l1:List Booking)=>
  gd (((w1.length+l1.length)*32≤70368744177664))<|
  lP (w1++l1) fun(l2:List Booking)=>
  dg g t a2 a3 ls1 l2
def g7 (g:G) (t:TE) (a0:Network) (a1:List Booking) (a2:Int) (a3:Int) (a4:List Trip):Option ((List Booking)×Bool):=
 cl (bF g t a0 a1) fun x1=>
 br x1
 (
  br (g.lt 20 (g.llen (t.r_Trip a4)))
  (
   cl (cd g t a1) fun x2=>
   some ((x2,false)))
  (
   cl (cd g t a1) fun x3=>
   cl (dg g t a2 a3 a4 x3) fun y1=>
   cl (mt g t y1) fun(l3:List Booking)=>
   cl (bF g t a0 l3) fun x4=>
   br x4
   (
    some ((l3,true)))
   (
    cl (cd g t a1) fun x5=>
    some ((x5,false)))))
 (
  cl (cd g t a1) fun x6=>
  some ((x6,false)))
theorem vC {g:G} {t:TE} {a0:Network} {a1:List Booking} {a2:Int} {a3:Int} {a4:List Trip} {r:(List Booking)×Bool} (hg:g=G.real) (ht:t=TE.real) (h:g7 g t a0 a1 a2 a3 a4=some r):Fn Tryz.prog 28 [.g (Network.rs t a0),.c (.s 4 (t.r_Booking a1)),.c (.v (.int .i64 a2)),.c (.v (.int .i64 a3)),.c (.s 2 (t.r_Trip a4))] (.u [.c (.o 4 (t.d_Booking r.1)),.c (.r (.v (.bool r.2)))]):=by
 obtain⟨X,hX⟩:=aJ (.u [.c (.o 4 (t.d_Booking r.1)),.c (.r (.v (.bool r.2)))]:X);rw[←hX];refine aE (rvs:=rv28) (j:=ir28) Tryz.func28 rfl (by kernel_rfl) (nb rfl) (by kernel_rfl) ac ?_;intro g2 F hg2 hF;obtain rfl:g2=g:=hg2.unique.trans hg.symm;clear hg2;obtain⟨wrap,lt,_,_,_,_,_,_,_,_,_,_,_,add,_,_,_,_,_,_,_,llen,_,_,dlen,_,_,_,rd⟩:=g2;obtain⟨_,_,_,_,r_Leg,_,r_I64,_,r_Trip,_,r_Booking,d_Booking⟩:=t
 obtain⟨a0_Legs,a0_Off,a0_Change⟩:=a0;unfold g7 at h;try dsimp only at h
 cbv;obtain⟨x1,hx1,h⟩:=ae h;try dsimp only at h
 refine ACall.mk _ _ rfl (hF _ _ _ (dY hg ht hx1)) (.inl rfl) (nb rfl) ?_;cbv
 cases hb1:x1
 ·rw[aa hb1] at h;cbv;iterate 3 try(rw[hb1];cbv)
  obtain⟨x6,hx6,h⟩:=ae h;try dsimp only at h
  refine ACall.mk _ _ rfl (hF _ _ _ (eP hg ht hx6)) (.inl rfl) (nb rfl) ?_;cbv;obtain rfl:=Option.some.inj h;exact ARet.mk ⟨rfl,(ah hg ht _)⟩ hX.symm
 rw[ab hb1] at h;cbv;iterate 3 try(rw[hb1];cbv)
 cases hb2:(lt 20 (llen (r_Trip a4)))
 rotate_left
 ·rw[ab hb2] at h;cbv;obtain⟨x2,hx2,h⟩:=ae h;try dsimp only at h
  refine ACall.mk _ _ rfl (hF _ _ _ (eP hg ht hx2)) (.inl rfl) (nb rfl) ?_;cbv;obtain rfl:=Option.some.inj h;exact ARet.mk ⟨rfl,(ah hg ht _)⟩ hX.symm
 rw[aa hb2] at h;cbv;obtain⟨x3,hx3,h⟩:=ae h;try dsimp only at h
 refine ACall.mk _ _ rfl (hF _ _ _ (eP hg ht hx3)) (.inl rfl) (nb rfl) ?_;cbv;obtain⟨o1,ho1,h⟩:=ae h;try dsimp only at h
 try rw[hg] at ho1
 try rw[ht] at ho1
 refine ABL.mk {p:Nat×Int×List Booking//p.1≤a4.length∧p.2.1=((p.1:Nat):Int)∧dg G.real TE.real a2 a3 (List.drop p.1 a4) p.2.2=some o1} (fun⟨⟨k1,v1,w1⟩,_⟩=>({sl:=[(1,.c (.r (.s 4 (r_Booking a1)))),(2,.c (.r (.v (.int .i64 a2)))),(3,.c (.r (.v (.int .i64 a3)))),(5,.c (.p 0 3 0 0)),(12,.c (.p 1 1 0 0)),(28,.c (.r (.s 2 (r_Trip a4)))),(29,.c (.r (.v (.int .i64 (llen (r_Trip a4)))))),(30,.c (.r (.v (.int .i64 v1))))],tab:=[(0,some (.foc 3 [] [.r (.s 6 (r_Leg a0_Legs)),.r (.s 1 (r_I64 a0_Off)),.r (.v (.int .i64 a0_Change))] [])),(1,some (.foc 1 [] [.f 2 4 0 (dlen (d_Booking w1))] [])),(2,some (.arr 4 (d_Booking w1)))]}:St)) 3 (fun p=>a4.length-p.1.1) ⟨(0,0,x3),Nat.zero_le _,rfl,ho1⟩ (List Booking) (fun y1=>({sl:=[(1,.c (.r (.s 4 (r_Booking a1)))),(5,.c (.p 0 3 0 0)),(12,.c (.p 1 1 0 0))],tab:=[(0,some (.foc 3 [] [.r (.s 6 (r_Leg a0_Legs)),.r (.s 1 (r_I64 a0_Off)),.r (.v (.int .i64 a0_Change))] [])),(1,some (.foc 1 [] [.f 2 4 0 (dlen (d_Booking y1))] [])),(2,some (.arr 4 (d_Booking y1)))]}:St)) 3 (fun y=>o1=y) ?_ ?_ ?_
 ·refine Wk.of [(0,some 0),(1,some 224),(2,some 208)] rfl rfl ?_ ?_
  ·cbv;all_goals exact⟨⟨_,rfl,rfl⟩,⟨_,rfl,rfl⟩,⟨_,rfl,rfl⟩,⟨_,rfl,rfl⟩,⟨_,rfl,rfl⟩,⟨_,rfl,rfl⟩,⟨_,rfl,rfl⟩,⟨_,rfl,rfl⟩,trivial⟩
  cbv;all_goals exact⟨⟨_,rfl,_,rfl,rfl,rfl,rfl,trivial⟩,⟨_,rfl,_,rfl,rfl,trivial⟩,⟨_,rfl,rfl⟩,trivial⟩
 ·rintro⟨⟨k1,v1,w1⟩,hk1,hi1,h_1⟩ hq1;have hm1:=(hq1.1 28 _ _ rfl);try dsimp only at hk1 hi1 h_1
  clear hq1;cbv
  by_cases hc1_:k1<a4.length
  ·have hb3:lt v1 (llen (r_Trip a4))=true:=cK hg ht hi1 hc1_;have hs1:=eE hg ht hi1 hc1_ hm1;obtain⟨z1,hz1⟩:=av hc1_;rw[aq hz1] at h_1;rw[dg] at h_1;obtain⟨z1_Leg,z1_Day⟩:=z1;try rw[←hg] at h_1
   try rw[←ht] at h_1
   try dsimp only at h_1
   rw[hb3];cbv;refine AStep.mk (d8 hi1) ?_;cbv;refine AGet.mk _ (cN hg ht hi1 hz1) ?_;cbv;obtain⟨l1,hl1,h_1⟩:=ag h_1;try dsimp only at h_1
   refine ANew.mk (d_Booking l1) (dlen (d_Booking l1)) (by rw[←hl1];exact fD hg ht [(Booking.mk a2 (Trip.mk z1_Leg z1_Day) a3)]) (by rw[←hl1];exact eJ hg ht [(Booking.mk a2 (Trip.mk z1_Leg z1_Day) a3)]) ?_;cbv;obtain⟨hc1,h_1⟩:=ak h_1;refine AStep.mk ⟨⟨rfl,(ah hg ht _)⟩,(dC hg ht (ah hg ht _) rfl hc1)⟩ ?_;cbv;obtain⟨l2,hl2,h_1⟩:=ag h_1;try dsimp only at h_1
   refine ANew.mk (d_Booking l2) (dlen (d_Booking l2)) (by rw[←hl2];exact fI hg ht (ah hg ht _) rfl) (by rw[←hl2];exact eI hg ht (ah hg ht _) rfl) ?_;cbv;try rw[hg] at h_1
   try rw[ht] at h_1
   refine⟨⟨(k1+1,(wrap .i64 (add v1 1)),l2),hc1_,hs1,h_1⟩,Wk.of [(0,some 0),(1,some 1),(2,some 179)] rfl rfl ?_ ?_,aB hc1_⟩
   ·cbv;all_goals exact⟨⟨_,rfl,rfl⟩,⟨_,rfl,rfl⟩,⟨_,rfl,rfl⟩,⟨_,rfl,rfl⟩,⟨_,rfl,rfl⟩,⟨_,rfl,rfl⟩,⟨_,rfl,rfl⟩,⟨_,rfl,rfl⟩,trivial⟩
   cbv;all_goals exact⟨⟨_,rfl,_,rfl,rfl,rfl,rfl,trivial⟩,⟨_,rfl,_,rfl,rfl,trivial⟩,⟨_,rfl,rfl⟩,trivial⟩
  have hb3:lt v1 (llen (r_Trip a4))=false:=cf hg ht hi1 hc1_;rw[List.drop_of_length_le (Nat.le_of_not_lt hc1_)] at h_1;rw[dg] at h_1;try rw[←hg] at h_1
  try rw[←ht] at h_1
  try dsimp only at h_1
  rw[hb3];cbv;refine⟨w1,Wk.of [(0,some 0),(1,some 1),(2,some 2)] rfl rfl ?_ ?_,(Option.some.inj h_1).symm⟩
  ·cbv;all_goals exact⟨⟨_,rfl,rfl⟩,⟨_,rfl,rfl⟩,⟨_,rfl,rfl⟩,trivial⟩
  cbv;all_goals exact⟨⟨_,rfl,_,rfl,rfl,rfl,rfl,trivial⟩,⟨_,rfl,_,rfl,rfl,trivial⟩,⟨_,rfl,rfl⟩,trivial⟩
 rintro y1 hy1;replace hy1:=hy1.symm;subst hy1;try dsimp only[lr,lrL,lrp,aH] at h
 cbv;obtain⟨l3,hl3,h⟩:=ae h;try dsimp only at h
 have hc2:=sI hl3;refine AStep.mk ⟨(ah hg ht _),rfl⟩ ?_;cbv;refine ASst.mk (d_Booking l3) (hF _ _ _ (vH hg ht hl3)) ?_;cbv;refine AStep.mk (fV ht (j7 ht (ah hg ht _) hc2)) ?_;cbv;obtain⟨x4,hx4,h⟩:=ae h;try dsimp only at h
 refine ACall.mk _ _ (by rw[show rd (d_Booking l3) 0 (dlen (d_Booking y1))=r_Booking l3 from gm hg ht (j7 ht (ah hg ht _) hc2)];try rfl) (hF _ _ _ (dY hg ht hx4)) (.inr rfl) (nb rfl) ?_
 cbv
 cases hb4:x4
 rotate_left
 ·rw[ab hb4] at h;cbv;obtain rfl:=Option.some.inj h;exact ARet.mk ⟨rfl,(j7 ht (ah hg ht _) hc2)⟩ hX.symm
 rw[aa hb4] at h;cbv;obtain⟨x5,hx5,h⟩:=ae h;try dsimp only at h
 refine ACall.mk _ _ rfl (hF _ _ _ (eP hg ht hx5)) (.inl rfl) (nb rfl) ?_;cbv;obtain rfl:=Option.some.inj h;exact ARet.mk ⟨rfl,(ah hg ht _)⟩ hX.symm
def ir56:J:=js [jq 1 (.box 0),jq 2 (.mv (.k (.c .un)))] [1] (js [jq 3 (.clo false 111 [1]),jm 2 3] [2] .ret)
def rv56:List RV:=[.t 2]
def mJ (g:G) (t:TE) (a0:Network):Fd:=
 (Fd.I_nextOf_1 a0)
theorem wL {g:G} {t:TE} {a0:Network} {r:Fd} (hg:g=G.real) (ht:t=TE.real) (h:mJ g t a0=r):Fn Tryz.prog 56 [.g (Network.rs t a0)] (.c (.r (t.r_Fd r))):=by
 obtain⟨X,hX⟩:=aJ (.c (.r (t.r_Fd r)):X);rw[←hX];refine aE (rvs:=rv56) (j:=ir56) Tryz.func56 rfl (by kernel_rfl) (nb rfl) (by kernel_rfl) ac ?_;intro g2 F hg2 hF;obtain rfl:g2=g:=hg2.unique.trans hg.symm;clear hg2;obtain⟨_⟩:=g2;obtain⟨_,_,_,_,_,_,_,_,_,_,_,_,_,_,_,_,r_Fd⟩:=t
 obtain⟨a0_Legs,a0_Off,a0_Change⟩:=a0;unfold mJ at h;try dsimp only at h
 cbv;refine AClo.mk (r_Fd (Fd.I_nextOf_1 (Network.mk a0_Legs a0_Off a0_Change))) (kD ht (Network.mk a0_Legs a0_Off a0_Change)) ?_;cbv;subst h;exact ARet.mk trivial hX.symm
def ir83:J:=js [jq 4 (.box 0),jq 8 (.mv (.k (.c (.n 1))))] [1,2,3,4] (.seq (js [jl 9 3 4,jc 10 54 [9],jq 11 (.not 10)] [1,2,3,4,11] (.cond 11 (js [jq 8 (.mv (.k (.c (.n 1))))] [8] .ret) .skip)) (.seq (.reg (some [[],[],[1],[],[],[],[0,1,2,3,4,5],[0,1,2,3,4,5,6]]) [jl 12 3 4,jl 13 3 4,jc 14 56 [13],jm 15 1,jm 16 2,jm 17 3,jc 18 109 [12,14,15,16,17],jm 8 18] [8]) .ret))
def rv83:List RV:=[.t 8]
def cR (g:G) (t:TE) (a0:Network) (a1:ByteArray) (a2:Int) (a3:Int):Option (List Int):=
 cl (cE g t a0) fun x1=>
 br x1
 (
  lP (mJ g t a0) fun x2=>
  cl (gj g t a0 x2 a1 a2 a3) fun x3=>
  some x3)
 (
  some [])
theorem nT {g:G} {t:TE} {a0:Network} {a1:ByteArray} {a2:Int} {a3:Int} {r:List Int} (hg:g=G.real) (ht:t=TE.real) (h:cR g t a0 a1 a2 a3=some r):Fn Tryz.prog 83 [.g (Network.rs t a0),.c (.v (.string a1)),.c (.v (.int .i64 a2)),.c (.v (.int .i64 a3))] (.c (.o 1 (t.d_I64 r))):=by
 obtain⟨X,hX⟩:=aJ (.c (.o 1 (t.d_I64 r)):X);rw[←hX];refine aE (rvs:=rv83) (j:=ir83) Tryz.func83 rfl (by kernel_rfl) (nb rfl) (by kernel_rfl) ac ?_;intro g2 F hg2 hF;obtain rfl:g2=g:=hg2.unique.trans hg.symm;clear hg2;obtain⟨_⟩:=g2;obtain⟨_,_,_,_,_,_,_,d_I64⟩:=t
 obtain⟨a0_Legs,a0_Off,a0_Change⟩:=a0;have hnil_I64:d_I64 []=[]:=lf ht;unfold cR at h;try dsimp only at h
 cbv;obtain⟨x1,hx1,h⟩:=ae h;try dsimp only at h
 refine ACall.mk _ _ rfl (hF _ _ _ (eZ hg ht hx1)) (.inl rfl) (nb rfl) ?_;cbv
 cases hb1:x1
 ·rw[aa hb1] at h;cbv;obtain rfl:=Option.some.inj h;exact ARet.mk trivial (by rw[hX];first|rfl|(simp only[Trip.ds,Scan.ds,Leg.ds,Network.ds,Booking.ds,Belief.ds,Cur.ds,Spot.ds,Know.ds,hnil_I64];try rfl))
 rw[ab hb1] at h;cbv;obtain⟨x2,hx2,h⟩:=ag h;try dsimp only at h
 refine ACall.mk _ _ rfl (hF _ _ _ (wL hg ht hx2)) (.inl rfl) (nb rfl) ?_;cbv;obtain⟨x3,hx3,h⟩:=ae h;try dsimp only at h
 refine ACall.mk _ _ rfl (hF _ _ _ (ng hg ht hx3)) (.inl rfl) (nb rfl) ?_;cbv;obtain rfl:=Option.some.inj h;exact ARet.mk ⟨rfl,(am hg ht _)⟩ hX.symm
def ir29:J:=js [jq 4 (.box 0),jm 8 (ki 0)] [1,2,3,4] (js [jl 12 3 4,jc 13 82 [12],jm 9 13] [1,2,3,4,9] (js [jl 14 3 4,jm 15 1,jm 16 3,jm 17 9,jq 18 (.len false 17),jc 19 83 [14,15,16,18],jm 10 19] [2,9,10] (js [jm 20 9,jm 21 2,jc 22 84 [20,21],jm 11 22] [10,11] (.seq (js [jm 23 11,jb 24 .lss .i 23 (ki 0),jm 25 24,jv 26 25 (.mv 10),jv 27 25 (.len false 26),jv 28 25 (.bin .eql .i 27 (ki 0)),jq 29 (.pick 25 kt 28)] [10,11,29] (.cond 29 (js [jq 8 (.mv (.k (V.i (-1))))] [8] .ret) .skip)) (js [jm 30 10,jm 31 11,ja 32 1 30 31,jk 33 32,jm 8 33] [8] .ret)))))
def rv29:List RV:=[.t 8]
def eM (g:G) (t:TE) (a0:Network) (a1:ByteArray) (a2:ByteArray) (a3:Int):Option Int:=
 cl (ek g t a0) fun x1=>
 cl (cR g t a0 a1 a3 (g.int (g.dlen (t.d_S x1)))) fun x2=>
 lP (co g t x1 a2) fun x3=>
 br (g.lt x3 0)
 (
  some (-1))
 (
  br (g.eq (g.int (g.dlen (t.d_I64 x2))) 0)
  (
   some (-1))
  (
   gd (((0:Int)≤x3∧x3<(((g.dlen (t.d_I64 x2)):Nat):Int)))<|
   gt x2 (g.nat x3) fun x4=>
   some x4))
theorem pT {g:G} {t:TE} {a0:Network} {a1:ByteArray} {a2:ByteArray} {a3:Int} {r:Int} (hg:g=G.real) (ht:t=TE.real) (h:eM g t a0 a1 a2 a3=some r):Fn Tryz.prog 29 [.g (Network.rs t a0),.c (.v (.string a1)),.c (.v (.string a2)),.c (.v (.int .i64 a3))] (.c (.r (.v (.int .i64 r)))):=by
 obtain⟨X,hX⟩:=aJ (.c (.r (.v (.int .i64 r))):X);rw[←hX];refine aE (rvs:=rv29) (j:=ir29) Tryz.func29 rfl (by kernel_rfl) (nb rfl) (by kernel_rfl) ac ?_;intro g2 F hg2 hF;obtain rfl:g2=g:=hg2.unique.trans hg.symm;clear hg2;obtain⟨_,lt,_,eq,_,_,_,_,_,_,_,_,int,_,_,_,_,_,_,_,_,_,_,_,dlen,_,_,_,rd⟩:=g2;obtain⟨_,_,_,_,_,_,_,d_I64,_,_,_,_,r_S,d_S⟩:=t
 obtain⟨a0_Legs,a0_Off,a0_Change⟩:=a0;unfold eM at h;try dsimp only at h
 cbv;obtain⟨x1,hx1,h⟩:=ae h;try dsimp only at h
 refine ACall.mk _ _ rfl (hF _ _ _ (gP hg ht hx1)) (.inl rfl) (nb rfl) ?_;cbv;obtain⟨x2,hx2,h⟩:=ae h;try dsimp only at h
 refine ACall.mk _ _ rfl (hF _ _ _ (nT hg ht hx2)) (.inl rfl) (nb rfl) ?_;cbv;refine AStep.mk (eU ht (ap hg ht _)) ?_;cbv;obtain⟨x3,hx3,h⟩:=ag h;try dsimp only at h
 refine ACall.mk _ _ (by rw[show rd (d_S x1) 0 (dlen (d_S x1))=r_S x1 from gL hg ht (ap hg ht _)];try rfl) (hF _ _ _ (c9 hg ht hx3)) (.inr rfl) (nb rfl) ?_
 cbv
 cases hb1:(lt x3 0)
 rotate_left
 ·rw[ab hb1] at h;cbv;iterate 3 try(rw[hb1];cbv)
  obtain rfl:=Option.some.inj h;exact ARet.mk trivial hX.symm
 rw[aa hb1] at h;cbv;iterate 3 try(rw[hb1];cbv)
 cases hb2:(eq (int (dlen (d_I64 x2))) 0)
 rotate_left
 ·rw[ab hb2] at h;cbv;obtain rfl:=Option.some.inj h;exact ARet.mk trivial hX.symm
 rw[aa hb2] at h;cbv;obtain⟨hc1,h⟩:=ak h;refine AStep.mk hc1 ?_;cbv;obtain⟨x4,hx4,h⟩:=aV h;try dsimp only at h
 refine AGet.mk _ (bn hg ht hx4) ?_;cbv;obtain rfl:=Option.some.inj h;exact ARet.mk trivial hX.symm
def ir30:J:=js [jq 5 (.box 0),jm 10 kf] [1,2,3,4,5] (js [jl 15 3 5,jc 16 82 [15],jm 11 16] [1,2,3,4,5,11] (.seq (js [jl 17 3 5,jc 18 54 [17],jq 19 (.not 18),jm 20 19,jv 21 20 (.mv 11),jv 22 20 (.mv 2),jv 23 20 (.call 84 true [21,22]),jv 24 20 (.bin .lss .i 23 (ki 0)),jq 25 (.pick 20 kt 24),jm 26 25,jv 27 26 (.mv 11),jv 28 26 (.mv 3),jv 29 26 (.call 84 true [27,28]),jv 30 26 (.bin .lss .i 29 (ki 0)),jq 31 (.pick 26 kt 30)] [1,2,3,4,5,31] (.cond 31 (js [jm 10 kf] [10] .ret) .skip)) (js [jm 32 2,jm 12 32] [1,3,4,5,12] (.seq (js [jm 33 1,jq 34 (.len false 33),jm 35 (ki 0)] [1,3,4,5,12,33,34,35] (.bl 0 (js [jb 36 .lss .i 35 34] [1,3,4,5,12,33,34,35,36] (.seq (.cond 36 .skip (.exit 0)) (.seq (.block 1 (js [jm 37 35,ja 38 2 33 35,jl 39 2 38,jq 14 (.alloc [.r (.v (.int .i64 0)),.r (.v (.int .i64 0))]),jm 13 37,jp (.st 2 14 39)] [1,3,4,5,12,13,14,33,34,35] (.seq (js [jl 40 3 5,jl 41 2 14,jc 42 76 [40,41],jq 43 (.not 42),jm 44 43,jv 45 44 (.fa 0 5),jv 46 44 (.ld false 1 45),jv 47 44 (.fa 0 14),jv 48 44 (.ld false 1 47),jv 49 44 (.ia 6 46 48),jv 50 44 (.fa 0 49),jv 51 44 (.ld false 1 50),jv 52 44 (.mv 12),jv 53 44 (.bin .neq .s 51 52),jq 54 (.pick 44 kt 53),jm 55 54,jv 56 55 (.ld true 3 5),jv 57 55 (.ld true 2 14),jv 58 55 (.call 85 true [56,57]),jv 59 55 (.mv 4),jv 60 55 (.bin .lss .i 58 59),jq 61 (.pick 55 kt 60)] [1,3,5,13,14,33,34,35,61] (.cond 61 (js [jm 10 kf] [10] .ret) .skip)) (js [jf 62 0 5,jk 63 62,jf 64 0 14,jk 65 64,ja 66 6 63 65,jf 67 1 66,jk 68 67,jm 12 68] [1,3,5,12,13,33,34,35] (.reg (some [[],[],[],[1,2],[1,2,3],[0,1,2,3,4],[],[6],[0,1,2,3,4,5,6,7],[0,1,2,3,4,5,6,7,8]]) [jl 69 3 5,jm 70 1,jm 71 13,ja 72 2 70 71,jl 73 2 72,jc 74 86 [69,73],jf 75 2 5,jk 76 75,jb 77 .add .i 74 76,jm 4 77] [1,3,4,5,12,33,34,35]))))) (.reg none [jb 78 .add .i 35 (ki 1),jm 35 78] [1,3,4,5,12,33,34,35])))))) (js [jm 79 12,jm 80 3,jb 81 .eql .s 79 80,jm 10 81] [10] .ret)))))
def rv30:List RV:=[.t 10]
def eA (g:G) (t:TE) (a0:Network):List Trip→Int→ByteArray→Option (LR Bool ByteArray)
 |[],v1,v2=>
  some (LR.out v2)
 |z1::ls1,v1,v2=>
  cl (fK g t a0 z1) fun x5=>
  br x5
  (
   gd (((0:Int)≤z1.Leg))<|
   gt a0.Legs (g.nat z1.Leg) fun x6=>
   br (g.seq x6.From v2)
   (
    cl (gu g t a0 z1) fun x7=>
    br (g.lt x7 v1)
    (
     some (LR.ret false))
    (
     gd (((0:Int)≤z1.Leg))<|
     cl (iL g t a0 z1) fun x8=>
     eA g t a0 ls1 (g.wrap .i64 (g.add x8 a0.Change)) x6.To))
   (
    some (LR.ret false)))
  (
   some (LR.ret false))
def kW (g:G) (t:TE) (a0:Network) (a1:List Trip) (a2:ByteArray) (a3:ByteArray) (a4:Int):Option Bool:=
 cl (ek g t a0) fun x1=>
 cl (cE g t a0) fun x2=>
 br x2
 (
  lP (co g t x1 a2) fun x3=>
  br (g.lt x3 0)
  (
   some false)
  (
   lP (co g t x1 a3) fun x4=>
   br (g.lt x4 0)
   (
    some false)
   (
    cl (eA g t a0 a1 a4 a2) fun o1=>lr o1 fun y1=>
    some (g.seq y1 a3))))
 (
  some false)
theorem yB {g:G} {t:TE} {a0:Network} {a1:List Trip} {a2:ByteArray} {a3:ByteArray} {a4:Int} {r:Bool} (hg:g=G.real) (ht:t=TE.real) (h:kW g t a0 a1 a2 a3 a4=some r):Fn Tryz.prog 30 [.g (Network.rs t a0),.c (.s 2 (t.r_Trip a1)),.c (.v (.string a2)),.c (.v (.string a3)),.c (.v (.int .i64 a4))] (.c (.r (.v (.bool r)))):=by
 obtain⟨X,hX⟩:=aJ (.c (.r (.v (.bool r))):X);rw[←hX];refine aE (rvs:=rv30) (j:=ir30) Tryz.func30 rfl (by kernel_rfl) (nb rfl) (by kernel_rfl) ac ?_;intro g2 F hg2 hF;obtain rfl:g2=g:=hg2.unique.trans hg.symm;clear hg2;obtain⟨wrap,lt,_,_,_,_,_,_,_,_,_,_,_,add,_,_,_,seq,_,_,_,llen,_,_,dlen,_,_,_,rd⟩:=g2;obtain⟨_,_,_,_,r_Leg,_,r_I64,_,r_Trip,_,_,_,r_S,d_S⟩:=t
 obtain⟨a0_Legs,a0_Off,a0_Change⟩:=a0;unfold kW at h;try dsimp only at h
 cbv;obtain⟨x1,hx1,h⟩:=ae h;try dsimp only at h
 refine ACall.mk _ _ rfl (hF _ _ _ (gP hg ht hx1)) (.inl rfl) (nb rfl) ?_;cbv;obtain⟨x2,hx2,h⟩:=ae h;try dsimp only at h
 refine ACall.mk _ _ rfl (hF _ _ _ (eZ hg ht hx2)) (.inl rfl) (nb rfl) ?_;cbv
 cases hb1:x2
 ·rw[aa hb1] at h;cbv;iterate 4 try(rw[hb1];cbv)
  obtain rfl:=Option.some.inj h;exact ARet.mk trivial hX.symm
 rw[ab hb1] at h;cbv;iterate 2 try(rw[hb1];cbv)
 refine AStep.mk (eU ht (ap hg ht _)) ?_;cbv;obtain⟨x3,hx3,h⟩:=ag h;try dsimp only at h
 refine ACall.mk _ _ (by rw[show rd (d_S x1) 0 (dlen (d_S x1))=r_S x1 from gL hg ht (ap hg ht _)];try rfl) (hF _ _ _ (c9 hg ht hx3)) (.inr rfl) (nb rfl) ?_
 cbv;iterate 2 try(rw[hb1];cbv)
 cases hb2:(lt x3 0)
 rotate_left
 ·rw[ab hb2] at h;cbv;iterate 4 try(rw[hb2];cbv)
  obtain rfl:=Option.some.inj h;exact ARet.mk trivial hX.symm
 rw[aa hb2] at h;cbv;iterate 2 try(rw[hb2];cbv)
 refine AStep.mk (eU ht (ap hg ht _)) ?_;cbv;obtain⟨x4,hx4,h⟩:=ag h;try dsimp only at h
 refine ACall.mk _ _ (by rw[show rd (d_S x1) 0 (dlen (d_S x1))=r_S x1 from gL hg ht (ap hg ht _)];try rfl) (hF _ _ _ (c9 hg ht hx4)) (.inr rfl) (nb rfl) ?_
 cbv;iterate 2 try(rw[hb2];cbv)
 cases hb3:(lt x4 0)
 rotate_left
 ·rw[ab hb3] at h;cbv;obtain rfl:=Option.some.inj h;exact ARet.mk trivial hX.symm
 rw[aa hb3] at h;cbv;obtain⟨o1,ho1,h⟩:=ae h;try dsimp only at h
 try rw[hg] at ho1
 try rw[ht] at ho1
 refine ABL.mk {p:Nat×Int×Int×ByteArray//p.1≤a1.length∧p.2.1=((p.1:Nat):Int)∧eA G.real TE.real (Network.mk a0_Legs a0_Off a0_Change) (List.drop p.1 a1) p.2.2.1 p.2.2.2=some o1} (fun⟨⟨k1,v3,v1,v2⟩,_⟩=>({sl:=[(1,.c (.r (.s 2 (r_Trip a1)))),(3,.c (.r (.v (.string a3)))),(4,.c (.r (.v (.int .i64 v1)))),(5,.c (.p 0 3 0 0)),(12,.c (.r (.v (.string v2)))),(33,.c (.r (.s 2 (r_Trip a1)))),(34,.c (.r (.v (.int .i64 (llen (r_Trip a1)))))),(35,.c (.r (.v (.int .i64 v3))))],tab:=[(0,some (.foc 3 [] [.r (.s 6 (r_Leg a0_Legs)),.r (.s 1 (r_I64 a0_Off)),.r (.v (.int .i64 a0_Change))] []))]}:St)) 1 (fun p=>a1.length-p.1.1) ⟨(0,0,a4,a2),Nat.zero_le _,rfl,ho1⟩ (ByteArray) (fun y1=>({sl:=[(3,.c (.r (.v (.string a3)))),(12,.c (.r (.v (.string y1))))],tab:=[]}:St)) 0 (fun y=>o1=LR.out y) ?_ ?_ ?_
 ·refine Wk.of [(0,some 0)] rfl rfl ?_ ?_
  ·cbv;all_goals exact⟨⟨_,rfl,rfl⟩,⟨_,rfl,rfl⟩,⟨_,rfl,rfl⟩,⟨_,rfl,rfl⟩,⟨_,rfl,rfl⟩,⟨_,rfl,rfl⟩,⟨_,rfl,rfl⟩,⟨_,rfl,rfl⟩,trivial⟩
  cbv;all_goals exact⟨⟨_,rfl,_,rfl,rfl,rfl,rfl,trivial⟩,trivial⟩
 ·rintro⟨⟨k1,v3,v1,v2⟩,hk1,hi1,h_1⟩ hq1;have hm1:=(hq1.1 1 _ _ rfl);try dsimp only at hk1 hi1 h_1
  clear hq1;cbv
  by_cases hc1_:k1<a1.length
  ·have hb4:lt v3 (llen (r_Trip a1))=true:=cK hg ht hi1 hc1_;have hs1:=eE hg ht hi1 hc1_ hm1;obtain⟨z1,hz1⟩:=av hc1_;rw[aq hz1] at h_1;rw[eA] at h_1;obtain⟨z1_Leg,z1_Day⟩:=z1;try rw[←hg] at h_1
   try rw[←ht] at h_1
   try dsimp only at h_1
   rw[hb4];cbv;refine AStep.mk (d8 hi1) ?_;cbv;refine AGet.mk _ (cN hg ht hi1 hz1) ?_;cbv;obtain⟨x5,hx5,h_1⟩:=ae h_1;try dsimp only at h_1
   refine ACall.mk _ _ rfl (hF _ _ _ (ic hg ht hx5)) (.inl rfl) (nb rfl) ?_;cbv
   cases hb5:x5
   ·rw[aa hb5] at h_1;cbv;iterate 9 try(rw[hb5];cbv)
    obtain rfl:=Option.some.inj h_1;try dsimp only[lr,lrL,lrp,aH] at h
    obtain rfl:=Option.some.inj h;exact ARet.mk trivial hX.symm
   rw[ab hb5] at h_1;cbv;iterate 4 try(rw[hb5];cbv)
   obtain⟨hc1,h_1⟩:=ak h_1;refine AStep.mk hc1 ?_;cbv;obtain⟨x6,hx6,h_1⟩:=aV h_1;obtain⟨x6_From,x6_To,x6_Start,x6_Takes,x6_Days,x6_Room⟩:=x6;try dsimp only at h_1
   refine AGet.mk _ (bg hg ht hx6) ?_;cbv;iterate 5 try(rw[hb5];cbv)
   cases hb6:(seq x6_From v2)
   ·rw[aa hb6] at h_1;cbv;iterate 5 try(rw[hb6];cbv)
    obtain rfl:=Option.some.inj h_1;try dsimp only[lr,lrL,lrp,aH] at h
    obtain rfl:=Option.some.inj h;exact ARet.mk trivial hX.symm
   rw[ab hb6] at h_1;cbv;iterate 2 try(rw[hb6];cbv)
   obtain⟨x7,hx7,h_1⟩:=ae h_1;try dsimp only at h_1
   refine ACall.mk _ _ rfl (hF _ _ _ (jZ hg ht hx7)) (.inl rfl) (nb rfl) ?_;cbv;iterate 3 try(rw[hb6];cbv)
   cases hb7:(lt x7 v1)
   rotate_left
   ·rw[ab hb7] at h_1;cbv;obtain rfl:=Option.some.inj h_1;try dsimp only[lr,lrL,lrp,aH] at h
    obtain rfl:=Option.some.inj h;exact ARet.mk trivial hX.symm
   rw[aa hb7] at h_1;cbv;obtain⟨hc2,h_1⟩:=ak h_1;refine AStep.mk hc2 ?_;cbv;refine AGet.mk _ (bg hg ht hx6) ?_;cbv;refine AStep.mk (d8 hi1) ?_;cbv;refine AGet.mk _ (cN hg ht hi1 hz1) ?_;cbv;obtain⟨x8,hx8,h_1⟩:=ae h_1;try dsimp only at h_1
   refine ACall.mk _ _ rfl (hF _ _ _ (jy hg ht hx8)) (.inl rfl) (nb rfl) ?_;cbv;try rw[hg] at h_1
   try rw[ht] at h_1
   refine⟨⟨(k1+1,(wrap .i64 (add v3 1)),(wrap .i64 (add x8 a0_Change)),x6_To),hc1_,hs1,h_1⟩,Wk.of [(0,some 0)] rfl rfl ?_ ?_,aB hc1_⟩
   ·cbv;all_goals exact⟨⟨_,rfl,rfl⟩,⟨_,rfl,rfl⟩,⟨_,rfl,rfl⟩,⟨_,rfl,rfl⟩,⟨_,rfl,rfl⟩,⟨_,rfl,rfl⟩,⟨_,rfl,rfl⟩,⟨_,rfl,rfl⟩,trivial⟩
   cbv;all_goals exact⟨⟨_,rfl,_,rfl,rfl,rfl,rfl,trivial⟩,trivial⟩
  have hb4:lt v3 (llen (r_Trip a1))=false:=cf hg ht hi1 hc1_;rw[List.drop_of_length_le (Nat.le_of_not_lt hc1_)] at h_1;rw[eA] at h_1;try rw[←hg] at h_1
  try rw[←ht] at h_1
  try dsimp only at h_1
  rw[hb4];cbv;refine⟨v2,Wk.of [] rfl rfl ?_ ?_,(Option.some.inj h_1).symm⟩
  ·cbv;all_goals exact⟨⟨_,rfl,rfl⟩,⟨_,rfl,rfl⟩,trivial⟩
  cbv;all_goals exact trivial
 rintro y1 hy1;replace hy1:=hy1.symm;subst hy1;try dsimp only[lr,lrL,lrp,aH] at h
 cbv;obtain rfl:=Option.some.inj h;exact ARet.mk trivial hX.symm
def ir32:J:=js [jq 3 (.box 0),jm 6 (ki 0)] [1,2,3] (.seq (js [jl 9 3 3,jc 10 54 [9],jq 11 (.not 10)] [1,2,3,11] (.cond 11 (js [jq 6 (.mv (.k (V.i (-1))))] [6] .ret) .skip)) (.seq (js [jm 12 1,jq 13 (.len false 12),jm 14 (ki 0)] [2,3,12,13,14] (.bl 0 (js [jb 15 .lss .i 14 13] [2,3,12,13,14,15] (.seq (.cond 15 .skip (.exit 0)) (.seq (.block 1 (js [ja 16 2 12 14,jl 17 2 16,jq 8 (.alloc [.r (.v (.int .i64 0)),.r (.v (.int .i64 0))]),jp (.st 2 8 17)] [3,8,12,13,14] (.seq (js [jl 18 3 3,jl 19 2 8,jc 20 76 [18,19],jq 21 (.not 20)] [3,8,12,13,14,21] (.cond 21 (js [jq 6 (.mv (.k (V.i (-1))))] [6] .ret) .skip)) (.reg none [jl 22 3 3,jl 23 2 8,jc 24 86 [22,23],jm 2 24] [2,3,12,13,14])))) (.reg none [jb 25 .add .i 14 (ki 1),jm 14 25] [2,3,12,13,14])))))) (js [jm 26 2,jm 6 26] [6] .ret)))
def rv32:List RV:=[.t 6]
def de (g:G) (t:TE) (a0:Network):List Trip→Int→Option (LR Int Int)
 |[],v1=>
  some (LR.out v1)
 |z1::ls1,v1=>
  cl (fK g t a0 z1) fun x2=>
  br x2
  (
   cl (iL g t a0 z1) fun x3=>
   de g t a0 ls1 x3)
  (
   some (LR.ret (-1)))
def g0 (g:G) (t:TE) (a0:Network) (a1:List Trip) (a2:Int):Option Int:=
 cl (cE g t a0) fun x1=>
 br x1
 (
  cl (de g t a0 a1 a2) fun o1=>lr o1 fun y1=>
  some y1)
 (
  some (-1))
theorem vr {g:G} {t:TE} {a0:Network} {a1:List Trip} {a2:Int} {r:Int} (hg:g=G.real) (ht:t=TE.real) (h:g0 g t a0 a1 a2=some r):Fn Tryz.prog 32 [.g (Network.rs t a0),.c (.s 2 (t.r_Trip a1)),.c (.v (.int .i64 a2))] (.c (.r (.v (.int .i64 r)))):=by
 obtain⟨X,hX⟩:=aJ (.c (.r (.v (.int .i64 r))):X);rw[←hX];refine aE (rvs:=rv32) (j:=ir32) Tryz.func32 rfl (by kernel_rfl) (nb rfl) (by kernel_rfl) ac ?_;intro g2 F hg2 hF;obtain rfl:g2=g:=hg2.unique.trans hg.symm;clear hg2;obtain⟨wrap,lt,_,_,_,_,_,_,_,_,_,_,_,add,_,_,_,_,_,_,_,llen⟩:=g2;obtain⟨_,_,_,_,r_Leg,_,r_I64,_,r_Trip⟩:=t
 obtain⟨a0_Legs,a0_Off,a0_Change⟩:=a0;unfold g0 at h;try dsimp only at h
 cbv;obtain⟨x1,hx1,h⟩:=ae h;try dsimp only at h
 refine ACall.mk _ _ rfl (hF _ _ _ (eZ hg ht hx1)) (.inl rfl) (nb rfl) ?_;cbv
 cases hb1:x1
 ·rw[aa hb1] at h;cbv;obtain rfl:=Option.some.inj h;exact ARet.mk trivial hX.symm
 rw[ab hb1] at h;cbv;obtain⟨o1,ho1,h⟩:=ae h;try dsimp only at h
 try rw[hg] at ho1
 try rw[ht] at ho1
 refine ABL.mk {p:Nat×Int×Int//p.1≤a1.length∧p.2.1=((p.1:Nat):Int)∧de G.real TE.real (Network.mk a0_Legs a0_Off a0_Change) (List.drop p.1 a1) p.2.2=some o1} (fun⟨⟨k1,v2,v1⟩,_⟩=>({sl:=[(2,.c (.r (.v (.int .i64 v1)))),(3,.c (.p 0 3 0 0)),(12,.c (.r (.s 2 (r_Trip a1)))),(13,.c (.r (.v (.int .i64 (llen (r_Trip a1)))))),(14,.c (.r (.v (.int .i64 v2))))],tab:=[(0,some (.foc 3 [] [.r (.s 6 (r_Leg a0_Legs)),.r (.s 1 (r_I64 a0_Off)),.r (.v (.int .i64 a0_Change))] []))]}:St)) 1 (fun p=>a1.length-p.1.1) ⟨(0,0,a2),Nat.zero_le _,rfl,ho1⟩ (Int) (fun y1=>({sl:=[(2,.c (.r (.v (.int .i64 y1))))],tab:=[]}:St)) 0 (fun y=>o1=LR.out y) ?_ ?_ ?_
 ·refine Wk.of [(0,some 0)] rfl rfl ?_ ?_
  ·cbv;all_goals exact⟨⟨_,rfl,rfl⟩,⟨_,rfl,rfl⟩,⟨_,rfl,rfl⟩,⟨_,rfl,rfl⟩,⟨_,rfl,rfl⟩,trivial⟩
  cbv;all_goals exact⟨⟨_,rfl,_,rfl,rfl,rfl,rfl,trivial⟩,trivial⟩
 ·rintro⟨⟨k1,v2,v1⟩,hk1,hi1,h_1⟩ hq1;have hm1:=(hq1.1 12 _ _ rfl);try dsimp only at hk1 hi1 h_1
  clear hq1;cbv
  by_cases hc1_:k1<a1.length
  ·have hb2:lt v2 (llen (r_Trip a1))=true:=cK hg ht hi1 hc1_;have hs1:=eE hg ht hi1 hc1_ hm1;obtain⟨z1,hz1⟩:=av hc1_;rw[aq hz1] at h_1;rw[de] at h_1;obtain⟨z1_Leg,z1_Day⟩:=z1;try rw[←hg] at h_1
   try rw[←ht] at h_1
   try dsimp only at h_1
   rw[hb2];cbv;refine AStep.mk (d8 hi1) ?_;cbv;refine AGet.mk _ (cN hg ht hi1 hz1) ?_;cbv;obtain⟨x2,hx2,h_1⟩:=ae h_1;try dsimp only at h_1
   refine ACall.mk _ _ rfl (hF _ _ _ (ic hg ht hx2)) (.inl rfl) (nb rfl) ?_;cbv
   cases hb3:x2
   ·rw[aa hb3] at h_1;cbv;obtain rfl:=Option.some.inj h_1;try dsimp only[lr,lrL,lrp,aH] at h
    obtain rfl:=Option.some.inj h;exact ARet.mk trivial hX.symm
   rw[ab hb3] at h_1;cbv;obtain⟨x3,hx3,h_1⟩:=ae h_1;try dsimp only at h_1
   refine ACall.mk _ _ rfl (hF _ _ _ (jy hg ht hx3)) (.inl rfl) (nb rfl) ?_;cbv;try rw[hg] at h_1
   try rw[ht] at h_1
   refine⟨⟨(k1+1,(wrap .i64 (add v2 1)),x3),hc1_,hs1,h_1⟩,Wk.of [(0,some 0)] rfl rfl ?_ ?_,aB hc1_⟩
   ·cbv;all_goals exact⟨⟨_,rfl,rfl⟩,⟨_,rfl,rfl⟩,⟨_,rfl,rfl⟩,⟨_,rfl,rfl⟩,⟨_,rfl,rfl⟩,trivial⟩
   cbv;all_goals exact⟨⟨_,rfl,_,rfl,rfl,rfl,rfl,trivial⟩,trivial⟩
  have hb2:lt v2 (llen (r_Trip a1))=false:=cf hg ht hi1 hc1_;rw[List.drop_of_length_le (Nat.le_of_not_lt hc1_)] at h_1;rw[de] at h_1;try rw[←hg] at h_1
  try rw[←ht] at h_1
  try dsimp only at h_1
  rw[hb2];cbv;refine⟨v1,Wk.of [] rfl rfl ?_ ?_,(Option.some.inj h_1).symm⟩
  ·cbv;all_goals exact⟨⟨_,rfl,rfl⟩,trivial⟩
  cbv;all_goals exact trivial
 rintro y1 hy1;replace hy1:=hy1.symm;subst hy1;try dsimp only[lr,lrL,lrp,aH] at h
 cbv;obtain rfl:=Option.some.inj h;exact ARet.mk trivial hX.symm
def ir33:J:=js [jm 4 (ki 0)] [0,1] (js [jm 5 0,jm 6 1,jq 7 (.mnx true 5 6),jm 4 7] [4] .ret)
def rv33:List RV:=[.t 4]
def xH (g:G) (t:TE) (a0:Int) (a1:Int):Int:=
 (g.imax a0 a1)
theorem Cv {g:G} {t:TE} {a0:Int} {a1:Int} {r:Int} (hg:g=G.real) (ht:t=TE.real) (h:xH g t a0 a1=r):Fn Tryz.prog 33 [.c (.v (.int .i64 a0)),.c (.v (.int .i64 a1))] (.c (.r (.v (.int .i64 r)))):=by
 obtain⟨X,hX⟩:=aJ (.c (.r (.v (.int .i64 r))):X);rw[←hX];refine aE (rvs:=rv33) (j:=ir33) Tryz.func33 rfl (by kernel_rfl) (nb rfl) (by kernel_rfl) ac ?_;intro g2 F hg2 hF;obtain rfl:g2=g:=hg2.unique.trans hg.symm;clear hg2;obtain⟨_⟩:=g2;obtain⟨_⟩:=t
 unfold xH at h;try dsimp only at h
 cbv;subst h;exact ARet.mk trivial hX.symm
def ir4:J:=js [jm 2 kf] [0] (.seq (js [jm 18 0,jc 19 11 [18]] [0,19] (.cond 19 (js [jm 2 kt] [2] .ret) .skip)) (js [jm 21 0,jq 22 (.call 22 false [21]),jm 20 22,jq 23 (.ext 0 20),jq 24 (.ext 1 20),jq 25 (.ext 2 20),jq 26 (.ext 3 20),jq 27 (.ext 4 20),jq 28 (.ext 5 20),jq 29 (.ext 6 20),jq 3 (.alloc [.n 6,.n 1,.r (.v (.int .i64 0))]),jp (.st 3 3 23),jm 4 24,jm 5 25,jm 6 26,jm 7 27,jm 8 28,jm 9 29] [3,4,5,6,7,8,9] (js [jl 31 3 3,jm 32 4,jm 33 5,jm 34 6,jm 35 7,jm 36 8,jm 37 9,jq 38 (.call 23 false [31,32,33,34,35,36,37]),jm 30 38,jq 39 (.ext 0 30),jq 40 (.ext 1 30),jm 10 39,jm 11 40] [3,4,5,6,7,8,9,10,11] (.seq (js [jl 42 3 3,jm 43 4,jm 44 5,jm 45 6,jm 46 7,jm 47 8,jm 48 9,jq 49 (.call 24 false [42,43,44,45,46,47,48]),jm 41 49,jq 50 (.ext 0 41),jq 51 (.ext 1 41),jm 12 50,jm 13 51] [3,4,5,6,7,8,9,10,11,13] (js [jm 52 11,jm 53 13,jb 54 .neq .b 52 53] [3,4,5,6,7,8,9,10,11,54] (.cond 54 (js [jm 2 kf] [2] .ret) .skip))) (.seq (js [jm 55 11,jq 56 (.not 55),jm 57 56,jv 58 57 (.mv 4),jv 59 57 (.call 25 false [58,(ki 9999)]),jv 60 57 (.len false 59),jv 61 57 (.bin .gtr .i 60 (ki 0)),jq 62 (.pick 57 kt 61)] [3,4,5,6,7,8,9,10,11,62] (.cond 62 (js [jm 63 11,jm 64 63,jv 65 64 (.mv 10),jv 66 64 (.len false 65),jv 67 64 (.bin .eql .i 66 (ki 0)),jq 68 (.pick 64 kt 67),jm 2 68] [2] .ret) .skip)) (.seq (js [jm 14 (ki 0)] [3,4,5,6,7,8,9,10,14] (.bl 0 (.seq (js [jm 69 14,jm 70 10,jq 71 (.len false 70),jb 72 .lss .i 69 71] [3,4,5,6,7,8,9,10,14,72] (.cond 72 .skip (.exit 0))) (.seq (.block 1 (.seq (.reg (some [[],[],[],[],[2,3],[2,3,4],[0,1,2,3,4,5],[],[0,1,2,3,4,5,6,7],[0,1,2,3,4,5,6,7,8],[0,1,2,3,4,5,6,7,8,9],[0,1,2,3,4,5,6,7,8,9],[0,1,2,3,4,5,6,7,8,9],[0,1,2,3,4,5,6,7,8,9,11,12],[0,1,2,3,4,5,6,7,8,9,11,12,13],[0,1,2,3,4,5,6,7,8,9,10,11,12,13,14],[0,1,2,3,4,5,6,7,8,9,10,11,12,13,14,15]]) [jl 75 3 3,jm 76 4,jm 77 10,jm 78 14,ja 79 2 77 78,jl 80 2 79,jc 81 26 [75,76,80],jm 82 9,jb 83 .lss .i 81 82,jm 84 83,jv 85 84 (.mv 5),jv 86 84 (.mv 10),jv 87 84 (.mv 14),jv 88 84 (.ia 2 86 87),jv 89 84 (.ld true 2 88),jv 90 84 (.call 27 true [85,89]),jq 91 (.pick 84 kt 90)] [3,4,5,6,7,8,9,10,14,91]) (.cond 91 (js [jm 2 kf] [2] .ret) .skip))) (.reg none [jm 73 14,jb 74 .add .i 73 (ki 1),jm 14 74] [3,4,5,6,7,8,9,10,14]))))) (js [jl 93 3 3,jm 94 4,jm 95 9,jm 96 10,jq 97 (.call 28 false [93,94,(ki 9999),95,96]),jm 92 97,jq 98 (.ext 0 92),jq 99 (.ext 1 92),jm 15 98,jm 16 99] [3,6,7,8,10,15,16] (js [jl 100 3 3,jm 101 6,jm 102 7,jm 103 8,jc 104 29 [100,101,102,103],jm 17 104] [3,6,7,8,10,15,16,17] (.seq (.reg (some [[],[],[],[],[],[0,1,2,3,4],[0,1,2,3,4,5],[0,1,2,3,4,5,6],[0,1,2,3,4,5,6,7],[0,1,2,3,4,5,6,7,8],[0,1,2,3,4,5,6,
 7,8,9],[0,1,2,3,4,5,6,7,8,9],[0,1,2,3,4,5,6,7,8,9,10,11],[0,1,2,3,4,5,6,7,8,9,10,11,12],[0,1,2,3,4,5,6,7,8,9,10,11,12,13],[0,1,2,3,4,5,6,7,8,9,10,11,12,13,14],[0,1,2,3,4,5,6,7,8,9,10,11,12,13,14],[0,1,2,3,4,5,6,7,8,9,10,11,12,13,14],[0,1,2,3,4,5,6,7,8,9,10,11,12,13,14,17],[0,1,2,3,4,5,6,7,8,9,10,11,12,13,14,15,16,17,18],[0,1,2,3,4,5,6,7,8,9,10,11,12,13,14],[0,1,2,3,4,5,6,7,8,9,10,11,12,13,14,15,16,17,18,19,20],[0,1,2,3,4,5,6,7,8,9,10,11,12,13,14,15,16,17,18,19,20,21],[0,1,2,3,4,5,6,7,8,9,10,11,12,13,14,15,16,17,18,19,20,21,22],[0,1,2,3,4,5,6,7,8,9,10,11,12,13,14,15,16,17,18,19,20,21,22,23],[0,1,2,3,4,5,6,7,8,9,10,11,12,13,14,15,16,17,18,19,20,21,22,23,24],[0,1,2,3,4,5,6,7,8,9,10,11,12,13,14,15,16,17,18,19,20,21,22,23,24,25],[0,1,2,3,4,5,6,7,8,9,10,11,12,13,14,15,16,17,18,19,20,21,22,23,24,25,26]]) [jl 105 3 3,jm 106 10,jm 107 6,jm 108 7,jm 109 8,jc 110 30 [105,106,107,108,109],jm 111 110,ju 112 111 (.mv 16),jq 113 (.pick 111 112 kf),jm 114 113,ju 115 114 (.ld true 3 3),ju 116 114 (.mv 15),ju 117 114 (.call 31 true [115,116]),jq 118 (.pick 114 117 kf),jm 119 118,ju 120 119 (.ld true 3 3),ju 121 119 (.mv 10),ju 122 119 (.mv 8),ju 123 119 (.call 33 true [122,(ki 0)]),ju 124 119 (.call 32 true [120,121,123]),ju 125 119 (.mv 17),ju 126 119 (.bin .geq .i 124 125),jq 127 (.pick 119 126 kf),jm 128 127,ju 129 128 (.mv 17),ju 130 128 (.bin .geq .i 129 (ki 0)),jq 131 (.pick 128 130 kf),jm 2 131] [2]) .ret)))))))))
def rv4:List RV:=[.t 2]
def dc (g:G) (t:TE) (x2:Network×(List Booking)×(List Trip)×ByteArray×ByteArray×Int×Int):List Trip→Option (LR Bool Unit)
 |[]=>
  some (LR.out ())
 |z1::ls1=>
  cl (jd g t (Network.mk x2.1.Legs x2.1.Off x2.1.Change) x2.2.1 z1) fun x6=>
  br (g.lt x6 x2.2.2.2.2.2.2)
  (
   some (LR.ret false))
  (
   lP (mC g t x2.2.2.1 z1) fun x7=>
   br x7
   (
    some (LR.ret false))
   (
    dc g t x2 ls1))
def kP (g:G) (t:TE) (a0:List Int):Option Bool:=
 lP (sB g t a0) fun x1=>
 br x1
 (
  some true)
 (
  cl (ew g t a0) fun x2=>
  cl (gb g t (Network.mk x2.1.Legs x2.1.Off x2.1.Change) x2.2.1 x2.2.2.1 x2.2.2.2.1 x2.2.2.2.2.1 x2.2.2.2.2.2.1 x2.2.2.2.2.2.2) fun x3=>
  cl (fj g t (Network.mk x2.1.Legs x2.1.Off x2.1.Change) x2.2.1 x2.2.2.1 x2.2.2.2.1 x2.2.2.2.2.1 x2.2.2.2.2.2.1 x2.2.2.2.2.2.2) fun x4=>
  br x3.2
  (
   br x4.2
   (
    cl (gZ g t x2.2.1 9999) fun x5=>
    br (g.lt 0 (g.llen (t.r_Trip x5)))
    (
     some true)
    (
     cl (dc g t x2 x3.1) fun o1=>lr o1 fun y1=>
     cl (g7 g t (Network.mk x2.1.Legs x2.1.Off x2.1.Change) x2.2.1 9999 x2.2.2.2.2.2.2 x3.1) fun x8=>
     cl (eM g t (Network.mk x2.1.Legs x2.1.Off x2.1.Change) x2.2.2.2.1 x2.2.2.2.2.1 x2.2.2.2.2.2.1) fun x9=>
     cl (kW g t (Network.mk x2.1.Legs x2.1.Off x2.1.Change) x3.1 x2.2.2.2.1 x2.2.2.2.2.1 x2.2.2.2.2.2.1) fun x10=>
     br x10
     (
      br x8.2
      (
       cl (bF g t (Network.mk x2.1.Legs x2.1.Off x2.1.Change) x8.1) fun x11=>
       br x11
       (
        lP (xH g t x2.2.2.2.2.2.1 0) fun x12=>
        cl (g0 g t (Network.mk x2.1.Legs x2.1.Off x2.1.Change) x3.1 x12) fun x13=>
        br (g.le x9 x13)
        (
         some (g.le 0 x9))
        (
         some false))
       (
        some false))
      (
       some false))
     (
      some false)))
   (
    some false))
  (
   br x4.2
   (
    some false)
   (
    some (g.eq (g.llen (t.r_Trip x3.1)) 0))))
theorem wc {g:G} {t:TE} {a0:List Int} {r:Bool} (hg:g=G.real) (ht:t=TE.real) (h:kP g t a0=some r):Fn Tryz.prog 4 [.c (.s 1 (t.r_U8 a0))] (.c (.r (.v (.bool r)))):=by
 obtain⟨X,hX⟩:=aJ (.c (.r (.v (.bool r))):X);rw[←hX];refine aE (rvs:=rv4) (j:=ir4) Tryz.func4 rfl (by kernel_rfl) (nb rfl) (by kernel_rfl) ac ?_;intro g2 F hg2 hF;obtain rfl:g2=g:=hg2.unique.trans hg.symm;clear hg2;obtain⟨wrap,lt,le,_,_,_,_,_,_,_,_,_,_,add,_,_,_,_,_,_,_,llen,_,_,_,_,_,_,_,rda⟩:=g2;obtain⟨_,_,_,_,r_Leg,d_Leg,r_I64,d_I64,r_Trip,d_Trip,r_Booking,d_Booking⟩:=t
 have hrda_Leg:∀l,rda (d_Leg l)=r_Leg l:=xY hg ht;have hrda_I64:∀l,rda (d_I64 l)=r_I64 l:=sJ hg ht;have hrda_Trip:∀l,rda (d_Trip l)=r_Trip l:=vg hg ht;have hrda_Booking:∀l,rda (d_Booking l)=r_Booking l:=og hg ht;unfold kP at h;try dsimp only at h
 cbv;obtain⟨x1,hx1,h⟩:=ag h;try dsimp only at h
 refine ACall.mk _ _ rfl (hF _ _ _ (BN hg ht hx1)) (.inl rfl) (nb rfl) ?_;cbv
 cases hb1:x1
 rotate_left
 ·rw[ab hb1] at h;cbv;obtain rfl:=Option.some.inj h;exact ARet.mk trivial hX.symm
 rw[aa hb1] at h;cbv;obtain⟨x2,hx2,h⟩:=ae h;obtain⟨⟨x2_1_Legs,x2_1_Off,x2_1_Change⟩,x2_2_1,x2_2_2_1,x2_2_2_2_1,x2_2_2_2_2_1,x2_2_2_2_2_2_1,x2_2_2_2_2_2_2⟩:=x2;try dsimp only at h
 refine ACallR.mk _ _ (.u [.g [.r (.s 6 (r_Leg x2_1_Legs)),.r (.s 1 (r_I64 x2_1_Off)),.r (.v (.int .i64 x2_1_Change))],.c (.r (.s 4 (r_Booking x2_2_1))),.c (.r (.s 2 (r_Trip x2_2_2_1))),.c (.r (.v (.string x2_2_2_2_1))),.c (.r (.v (.string x2_2_2_2_2_1))),.c (.r (.v (.int .i64 x2_2_2_2_2_2_1))),.c (.r (.v (.int .i64 x2_2_2_2_2_2_2)))]) rfl (hF _ _ _ (nz hg ht hx2)) (.inl rfl) (nb rfl) (by cbv;(try simp only[hrda_Booking,hrda_I64,hrda_Leg,hrda_Trip])) ?_;cbv;obtain⟨x3,hx3,h⟩:=ae h;obtain⟨x3_1,x3_2⟩:=x3;try dsimp only at h
 refine ACallR.mk _ _ (.u [.c (.r (.s 2 (r_Trip x3_1))),.c (.r (.v (.bool x3_2)))]) rfl (hF _ _ _ (tx hg ht hx3)) (.inl rfl) (nb rfl) (by cbv;(try simp only[hrda_Trip])) ?_;cbv;obtain⟨x4,hx4,h⟩:=ae h;obtain⟨x4_1,x4_2⟩:=x4;try dsimp only at h
 refine ACallR.mk _ _ (.u [.c (.r (.s 2 (r_Trip x4_1))),.c (.r (.v (.bool x4_2)))]) rfl (hF _ _ _ (my hg ht hx4)) (.inl rfl) (nb rfl) (by cbv;(try simp only[hrda_Trip])) ?_;cbv;have hb2:x3_2=true∨x3_2=false:=by cases x3_2<;>simp
 rcases hb2 with hb2|hb2
 ·rw[ab hb2] at h;have hK_:=h;subst hb2;have h:=hK_;clear hK_;cbv;have hb3:x4_2=true∨x4_2=false:=by cases x4_2<;>simp
  rcases hb3 with hb3|hb3
  ·rw[ab hb3] at h;have hK_:=h;subst hb3;have h:=hK_;clear hK_;cbv;iterate 2 try(rw[hb2];cbv)
   obtain⟨x5,hx5,h⟩:=ae h;try dsimp only at h
   refine ACallR.mk _ _ (.c (.r (.s 2 (r_Trip x5)))) rfl (hF _ _ _ (tX hg ht hx5)) (.inl rfl) (nb rfl) (by cbv;(try simp only[hrda_Trip])) ?_;cbv;iterate 3 try(rw[hb2];cbv)
   cases hb4:(lt 0 (llen (r_Trip x5)))
   rotate_left
   ·rw[ab hb4] at h;cbv;iterate 4 try(rw[hb2];cbv)
    obtain rfl:=Option.some.inj h;exact ARet.mk trivial hX.symm
   rw[aa hb4] at h;cbv;obtain⟨o1,ho1,h⟩:=ae h;try dsimp only at h
   try rw[hg] at ho1
   try rw[ht] at ho1
   refine ABL.mk {p:Nat×Int//p.1≤x3_1.length∧p.2=((p.1:Nat):Int)∧dc G.real TE.real ((Network.mk x2_1_Legs x2_1_Off x2_1_Change),x2_2_1,x2_2_2_1,x2_2_2_2_1,x2_2_2_2_2_1,x2_2_2_2_2_2_1,x2_2_2_2_2_2_2) (List.drop p.1 x3_1)=some o1} (fun⟨⟨k1,v1⟩,_⟩=>({sl:=[(3,.c (.p 0 3 0 0)),(4,.c (.r (.s 4 (r_Booking x2_2_1)))),(5,.c (.r (.s 2 (r_Trip x2_2_2_1)))),(6,.c (.r (.v (.string x2_2_2_2_1)))),(7,.c (.r (.v (.string x2_2_2_2_2_1)))),(8,.c (.r (.v (.int .i64 x2_2_2_2_2_2_1)))),(9,.c (.r (.v (.int .i64 x2_2_2_2_2_2_2)))),(10,.c (.r (.s 2 (r_Trip x3_1)))),(14,.c (.r (.v (.int .i64 v1))))],tab:=[(0,some (.foc 3 [] [.r (.s 6 (r_Leg x2_1_Legs)),.r (.s 1 (r_I64 x2_1_Off)),.r (.v (.int .i64 x2_1_Change))] []))]}:St)) 1 (fun p=>x3_1.length-p.1.1) ⟨(0,0),Nat.zero_le _,rfl,ho1⟩ (Unit) (fun _=>({sl:=[(3,.c (.p 0 3 0 0)),(4,.c (.r (.s 4 (r_Booking x2_2_1)))),(6,.c (.r (.v (.string x2_2_2_2_1)))),(7,.c (.r (.v (.string x2_2_2_2_2_1)))),(8,.c (.r (.v (.int .i64 x2_2_2_2_2_2_1)))),(9,.c (.r (.v (.int .i64 x2_2_2_2_2_2_2)))),(10,.c (.r (.s 2 (r_Trip x3_1))))],tab:=[(0,some (.foc 3 [] [.r (.s 6 (r_Leg x2_1_Legs)),.r (.s 1 (r_I64 x2_1_Off)),.r (.v (.int .i64 x2_1_Change))] []))]}:St)) 1 (fun y=>o1=LR.out y) ?_ ?_ ?_
   ·refine Wk.of [(0,some 208)] rfl rfl ?_ ?_
    ·cbv;all_goals exact⟨⟨_,rfl,rfl⟩,⟨_,rfl,rfl⟩,⟨_,rfl,rfl⟩,⟨_,rfl,rfl⟩,⟨_,rfl,rfl⟩,⟨_,rfl,rfl⟩,⟨_,rfl,rfl⟩,⟨_,rfl,rfl⟩,⟨_,rfl,rfl⟩,trivial⟩
    cbv;all_goals exact⟨⟨_,rfl,_,rfl,rfl,rfl,rfl,trivial⟩,trivial⟩
   ·rintro⟨⟨k1,v1⟩,hk1,hi1,h_1⟩ hq1;have hm1:=(hq1.1 10 _ _ rfl);try dsimp only at hk1 hi1 h_1
    clear hq1;cbv
    by_cases hc1_:k1<x3_1.length
    ·have hb5:lt v1 (llen (r_Trip x3_1))=true:=cK hg ht hi1 hc1_;have hs1:=eE hg ht hi1 hc1_ hm1;obtain⟨z1,hz1⟩:=av hc1_;rw[aq hz1] at h_1;rw[dc] at h_1;obtain⟨z1_Leg,z1_Day⟩:=z1;try rw[←hg] at h_1
     try rw[←ht] at h_1
     try dsimp only at h_1
     rw[hb5];cbv;refine AStep.mk (d8 hi1) ?_;cbv;refine AGet.mk _ (cN hg ht hi1 hz1) ?_;cbv;obtain⟨x6,hx6,h_1⟩:=ae h_1;try dsimp only at h_1
     refine ACall.mk _ _ rfl (hF _ _ _ (tV hg ht hx6)) (.inl rfl) (nb rfl) ?_;cbv
     cases hb6:(lt x6 x2_2_2_2_2_2_2)
     rotate_left
     ·rw[ab hb6] at h_1;cbv;iterate 6 try(rw[hb6];cbv)
      obtain rfl:=Option.some.inj h_1;try dsimp only[lr,lrL,lrp,aH] at h
      obtain rfl:=Option.some.inj h;exact ARet.mk trivial hX.symm
     rw[aa hb6] at h_1;cbv;iterate 3 try(rw[hb6];cbv)
     refine AStep.mk (d8 hi1) ?_;cbv;refine AGet.mk _ (cN hg ht hi1 hz1) ?_;cbv;iterate 2 try(rw[hb6];cbv)
     obtain⟨x7,hx7,h_1⟩:=ag h_1;try dsimp only at h_1
     refine ACall.mk _ _ rfl (hF _ _ _ (yX hg ht hx7)) (.inl rfl) (nb rfl) ?_;cbv;try(rw[hb6];cbv)
     cases hb7:x7
     rotate_left
     ·rw[ab hb7] at h_1;cbv;obtain rfl:=Option.some.inj h_1;try dsimp only[lr,lrL,lrp,aH] at h
      obtain rfl:=Option.some.inj h;exact ARet.mk trivial hX.symm
     rw[aa hb7] at h_1;cbv;try rw[hg] at h_1
     try rw[ht] at h_1
     refine⟨⟨(k1+1,(wrap .i64 (add v1 1))),hc1_,hs1,h_1⟩,Wk.of [(0,some 0)] rfl rfl ?_ ?_,aB hc1_⟩
     ·cbv;all_goals exact⟨⟨_,rfl,rfl⟩,⟨_,rfl,rfl⟩,⟨_,rfl,rfl⟩,⟨_,rfl,rfl⟩,⟨_,rfl,rfl⟩,⟨_,rfl,rfl⟩,⟨_,rfl,rfl⟩,⟨_,rfl,rfl⟩,⟨_,rfl,rfl⟩,trivial⟩
     cbv;all_goals exact⟨⟨_,rfl,_,rfl,rfl,rfl,rfl,trivial⟩,trivial⟩
    have hb5:lt v1 (llen (r_Trip x3_1))=false:=cf hg ht hi1 hc1_;rw[List.drop_of_length_le (Nat.le_of_not_lt hc1_)] at h_1;rw[dc] at h_1;try rw[←hg] at h_1
    try rw[←ht] at h_1
    try dsimp only at h_1
    rw[hb5];cbv;refine⟨(),Wk.of [(0,some 0)] rfl rfl ?_ ?_,(Option.some.inj h_1).symm⟩
    ·cbv;all_goals exact⟨⟨_,rfl,rfl⟩,⟨_,rfl,rfl⟩,⟨_,rfl,rfl⟩,⟨_,rfl,rfl⟩,⟨_,rfl,rfl⟩,⟨_,rfl,rfl⟩,⟨_,rfl,rfl⟩,trivial⟩
    cbv;all_goals exact⟨⟨_,rfl,_,rfl,rfl,rfl,rfl,trivial⟩,trivial⟩
   rintro _ hy1;replace hy1:=hy1.symm;subst hy1;try dsimp only[lr,lrL,lrp,aH] at h
   cbv;obtain⟨x8,hx8,h⟩:=ae h;obtain⟨x8_1,x8_2⟩:=x8;try dsimp only at h
   refine ACallR.mk _ _ (.u [.c (.r (.s 4 (r_Booking x8_1))),.c (.r (.v (.bool x8_2)))]) rfl (hF _ _ _ (vC hg ht hx8)) (.inl rfl) (nb rfl) (by cbv;(try simp only[hrda_Booking])) ?_;cbv;obtain⟨x9,hx9,h⟩:=ae h;try dsimp only at h
   refine ACall.mk _ _ rfl (hF _ _ _ (pT hg ht hx9)) (.inl rfl) (nb rfl) ?_;cbv;obtain⟨x10,hx10,h⟩:=ae h;try dsimp only at h
   refine ACall.mk _ _ rfl (hF _ _ _ (yB hg ht hx10)) (.inl rfl) (nb rfl) ?_;cbv
   cases hb8:x10
   ·rw[aa hb8] at h;cbv;try(rw[hb8];cbv)
    obtain rfl:=Option.some.inj h;exact ARet.mk trivial hX.symm
   rw[ab hb8] at h;cbv;try(rw[hb8];cbv)
   have hb9:x8_2=true∨x8_2=false:=by cases x8_2<;>simp
   rcases hb9 with hb9|hb9
   ·rw[ab hb9] at h;have hK_:=h;subst hb9;have h:=hK_;clear hK_;cbv;iterate 2 try(rw[hb9];cbv)
    obtain⟨x11,hx11,h⟩:=ae h;try dsimp only at h
    refine ACall.mk _ _ rfl (hF _ _ _ (dY hg ht hx11)) (.inl rfl) (nb rfl) ?_;cbv;try(rw[hb9];cbv)
    cases hb10:x11
    ·rw[aa hb10] at h;cbv;iterate 7 try(rw[hb10];cbv)
     obtain rfl:=Option.some.inj h;exact ARet.mk trivial hX.symm
    rw[ab hb10] at h;cbv;iterate 3 try(rw[hb10];cbv)
    obtain⟨x12,hx12,h⟩:=ag h;try dsimp only at h
    refine ACall.mk _ _ rfl (hF _ _ _ (Cv hg ht hx12)) (.inl rfl) (nb rfl) ?_;cbv;try(rw[hb10];cbv)
    obtain⟨x13,hx13,h⟩:=ae h;try dsimp only at h
    refine ACall.mk _ _ rfl (hF _ _ _ (vr hg ht hx13)) (.inl rfl) (nb rfl) ?_;cbv;iterate 3 try(rw[hb10];cbv)
    cases hb11:(le x9 x13)
    rotate_left
    ·rw[ab hb11] at h;cbv;iterate 2 try(rw[hb11];cbv)
     obtain rfl:=Option.some.inj h;exact ARet.mk trivial hX.symm
    rw[aa hb11] at h;cbv;iterate 2 try(rw[hb11];cbv)
    obtain rfl:=Option.some.inj h;exact ARet.mk trivial hX.symm
   rw[aa hb9] at h;have hK_:=h;subst hb9;have h:=hK_;clear hK_;cbv;iterate 3 try(rw[hb9];cbv)
   obtain rfl:=Option.some.inj h;exact ARet.mk trivial hX.symm
  rw[aa hb3] at h;have hK_:=h;subst hb3;have h:=hK_;clear hK_;cbv;obtain rfl:=Option.some.inj h;exact ARet.mk trivial hX.symm
 rw[aa hb2] at h;have hK_:=h;subst hb2;have h:=hK_;clear hK_;cbv;have hb12:x4_2=true∨x4_2=false:=by cases x4_2<;>simp
 rcases hb12 with hb12|hb12
 ·rw[ab hb12] at h;have hK_:=h;subst hb12;have h:=hK_;clear hK_;cbv;obtain rfl:=Option.some.inj h;exact ARet.mk trivial hX.symm
 rw[aa hb12] at h;have hK_:=h;subst hb12;have h:=hK_;clear hK_;cbv;iterate 9 try(rw[hb2];cbv)
 obtain rfl:=Option.some.inj h;exact ARet.mk trivial hX.symm
end Go.Vs
