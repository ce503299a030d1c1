/- Part of the proofs of this seat's laws: Laa. No condition. -/
import Derived.Test.YticpmdigfdpmfaaGreatTy
import Derived.Test.YticpmdigfdpmfaaGreatTIRall
import Derived.Test.YticpmdigfdpmfaaGreatVf
import Derived.Test.YticpmdigfdpmfaaGreatVg
import Derived.Sort.Walk0
import Derived.Test.YticpmdigfdpmfaaGreatProg
import Derived.Lib.Strings
import Derived.Lib.Slices
import Derived.Lib.Walk
import Derived.Lib.Bytealg
import Derived.Test.YticpmdigfdpmfaaGreatVh
import Derived.Shelf.Lay
import Derived.KernelRfl
import Derived.Shelf.Sort.AssemblysIn
import Derived.Shelf.Sort.So_math_bits_LenInS
import Derived.Sort.EveryDepth
import Derived.LoopN
set_option linter.unusedVariables false
set_option linter.unusedSimpArgs false
set_option linter.unusedSectionVars false
namespace Go.Vs
set_option maxRecDepth 100000
def ir11:J:=js [jm 2 kf] [0] (js [jm 3 0,jq 4 (.len false 3),jb 5 .gtr .i 4 (ki 4096),jm 2 5] [2] .ret)
def rv11:List RV:=[.t 2]
open Go.Proofs Go.IntWalk
set_option linter.unusedVariables false
set_option maxHeartbeats 4000000
def pw (g:G) (t:TE) (a0:List Int):Bool:=
 (g.lt 4096 (g.llen (t.r_U8 a0)))
theorem uM {g:G} {t:TE} {a0:List Int} {r:Bool} (hg:g=G.real) (ht:t=TE.real) (h:pw g t a0=r):Fn Tryz.prog 11 [.c (.s 1 (t.r_U8 a0))] (.c (.r (.v (.bool r)))):=by
 obtain⟨X,hX⟩:=aC (.c (.r (.v (.bool r))):X);rw[←hX];refine aA (rvs:=rv11) (j:=ir11) Tryz.func11 rfl (by kernel_rfl) (nb rfl) (by kernel_rfl) af ?_;intro g2 F hg2 hF;obtain rfl:g2=g:=hg2.unique.trans hg.symm;clear hg2;obtain⟨_⟩:=g2;obtain⟨_⟩:=t
 unfold pw at h;try dsimp only at h
 cbv;subst h;exact ARet.mk trivial hX.symm
end Go.Vs
namespace Go.Vs
open Go.IntWalk
theorem C2 {a b:ByteArray} (h:bOf a=bOf b):a=b:=by
 have:=congrArg sOf h
 rwa [zO,zO] at this
instance memD (x:ByteArray):∀l:List ByteArray,Decidable (x∈l)
 |[]=>.isFalse (by simp)
 |y::l=>match decEq x y,memD x l with
  |.isTrue h,_=>.isTrue (by simp[h])
  |.isFalse h,.isTrue h2=>.isTrue (by simp[h2])
  |.isFalse h,.isFalse h2=>.isFalse (by simp[h,h2])
theorem gn (a b:ByteArray):G.real.seq a b=decide (a=b):=by
 rw[GC,Lib.toList_data,Lib.toList_data]
 by_cases h:a=b
 ·subst h;simp
 ·have:¬a.data.toList=b.data.toList:=fun e=>h (C2 e)
  rw[decide_eq_false h]
  exact beq_false_of_ne this
def bLt (a b:ByteArray):Prop:=bOf a<bOf b
instance (a b:ByteArray):Decidable (bLt a b):=inferInstanceAs (Decidable (bOf a<bOf b))
theorem EN (a b:ByteArray):G.real.slt a b=decide (bLt a b):=by
 show Op.bytesLess a.toList b.toList=_
 rw[Go.Proofs.bytesLess_eq,Lib.toList_data,Lib.toList_data]
 rfl
theorem nk (a:ByteArray):¬bLt a a:=List.lt_irrefl _
theorem tB {a b c:ByteArray} (h1:bLt a b) (h2:bLt b c):bLt a c:=List.lt_trans h1 h2
theorem zi (a b:ByteArray):bLt a b∨a=b∨bLt b a:=by
 by_cases h1:bLt a b
 ·exact .inl h1
 ·by_cases h2:bLt b a
  ·exact .inr (.inr h2)
  ·refine .inr (.inl (C2 ?_))
   exact List.le_antisymm (fun h=>h2 h) (fun h=>h1 h)
theorem rO:∀{l m:List ByteArray},l.Pairwise bLt→m.Pairwise bLt→(∀x,x∈l↔x∈m)→l=m
 |[],[],_,_,_=>rfl
 |[],y::m,_,_,h=>by have:=(h y).2 (by simp);simp at this
 |x::l,[],_,_,h=>by have:=(h x).1 (by simp);simp at this
 |x::l,y::m,hl,hm,h=>by
  obtain⟨l1,l2⟩:=List.pairwise_cons.1 hl
  obtain⟨m1,m2⟩:=List.pairwise_cons.1 hm
  have hxy:x=y:=by
   have hx:=(h x).1 (by simp)
   have hy:=(h y).2 (by simp)
   rcases List.mem_cons.1 hx with e|hx
   ·exact e
   ·rcases List.mem_cons.1 hy with e|hy
    ·exact e.symm
    ·exact absurd (tB (l1 _ hy) (m1 _ hx)) (nk _)
  subst hxy
  congr 1
  refine rO l2 m2 fun z=>?_
  have hz:=h z
  simp only[List.mem_cons] at hz
  constructor
  ·intro hzl
   rcases hz.1 (.inr hzl) with e|e
   ·subst e;exact absurd (l1 _ hzl) (nk _)
   ·exact e
  ·intro hzm
   rcases hz.2 (.inr hzm) with e|e
   ·subst e;exact absurd (m1 _ hzm) (nk _)
   ·exact e
theorem vR (l:List ByteArray) (z:ByteArray):z∈mT l↔z∈l:=by
 have h:(mT l).Perm ((l.map bOf).map sOf):=(List.mergeSort_perm _ _).map sOf
 rw[h.mem_iff,List.map_map]
 simp only[List.mem_map,Function.comp]
 constructor
 ·rintro⟨a,ha,rfl⟩;exact ha
 ·intro hz;exact⟨z,hz,rfl⟩
theorem wT (l:List ByteArray):(mT l).length=l.length:=by unfold mT;rw[List.length_map,List.length_mergeSort,List.length_map]
theorem p9 {l:List ByteArray} (hn:l.Nodup):(mT l).Pairwise bLt:=by
 have hp:(mT l).Perm l:=by
  have:=(List.mergeSort_perm (l.map bOf) fun x y=>decide (x≤y)).map sOf
  rw[List.map_map] at this
  have e:l.map (sOf∘bOf)=l:=by
   conv=>rhs;rw[←List.map_id l]
   rfl
  rw[e] at this
  exact this
 have hnd:(mT l).Nodup:=hp.nodup_iff.2 hn
 have hs:((l.map bOf).mergeSort fun x y=>decide (x≤y)).Pairwise fun a b=>(decide (a≤b))=true:=by
  refine List.pairwise_mergeSort (fun a b c h1 h2=>?_) (fun a b=>?_) _
  ·simp only[decide_eq_true_eq] at h1 h2 ⊢;exact List.le_trans h1 h2
  ·simp only[Bool.or_eq_true,decide_eq_true_eq];exact List.le_total a b
 have hs2:(mT l).Pairwise fun a b=>bOf a≤bOf b:=by
  unfold mT
  rw[List.pairwise_map]
  exact hs.imp fun h=>by simpa [Ev] using h
 refine(hs2.and hnd).imp fun⟨h1,h2⟩=>?_
 rcases zi _ _ with h|h|h
 ·exact h
 ·exact absurd h h2
 ·exact absurd h (fun hh=>h1 hh)
def ddp:List ByteArray→List ByteArray
 |[]=>[]
 |x::l=>if x∈l then ddp l else x::ddp l
theorem qy:∀(l:List ByteArray) (z:ByteArray),z∈ddp l↔z∈l
 |[],z=>by simp[ddp]
 |x::l,z=>by
  unfold ddp
  split
  ·rename_i h
   rw[qy l z,List.mem_cons]
   exact⟨.inr,fun hh=>hh.elim (fun e=>e▸h) id⟩
  ·rw[List.mem_cons,List.mem_cons,qy l z]
theorem oM:∀l:List ByteArray,(ddp l).Nodup
 |[]=>by simp[ddp]
 |x::l=>by
  unfold ddp
  split
  ·exact oM l
  ·rename_i h
   exact List.nodup_cons.2 ⟨by rw[qy];exact h,oM l⟩
def yf (l:List ByteArray):List ByteArray:=mT (ddp l)
theorem wl (l:List ByteArray) (z:ByteArray):z∈yf l↔z∈l:=by
 unfold yf
 rw[vR,qy]
theorem wk (l:List ByteArray):(yf l).Pairwise bLt:=p9 (oM l)
theorem zp {l m:List ByteArray} (h:m.Pairwise bLt) (hm:∀x,x∈m↔x∈l):m=yf l:=rO h (wk l) fun x=>by rw[hm,wl]
theorem zY:∀l:List ByteArray,(ddp l).length≤l.length
 |[]=>by simp[ddp]
 |x::l=>by
  have:=zY l
  unfold ddp
  split<;>simp<;>omega
theorem B5 (l:List ByteArray):(yf l).length≤l.length:=by unfold yf;rw[wT];exact zY l
def ixN:List ByteArray→ByteArray→Nat
 |[],_=>0
 |x::l,s=>if x=s then 0 else ixN l s+1
theorem dg:∀{l:List ByteArray} {s:ByteArray},s∈l→ixN l s<l.length∧l[ixN l s]?=some s
 |x::l,s,h=>by
  unfold ixN
  split
  ·rename_i e;subst e;simp
  ·rename_i e
   have h2:=dg ((List.mem_cons.1 h).resolve_left (fun hh=>e hh.symm))
   simpa using h2
def ix (l:List ByteArray) (s:ByteArray):Int:=if s∈l then(ixN l s:Int) else-1
theorem sc {l:List ByteArray} {s:ByteArray}:ix l s<0↔s∉l:=by
 unfold ix;split<;>simp_all
theorem ui {l:List ByteArray} {s:ByteArray}:0≤ix l s↔s∈l:=by
 unfold ix;split<;>simp_all
theorem iX {l:List ByteArray} {s:ByteArray} (h:s∈l):ix l s=(ixN l s:Int):=by unfold ix;rw[if_pos h]
set_option maxRecDepth 100000
def ir95:J:=js [jm 2 (ki 0)] [0] (.seq (js [jm 5 0,jq 6 (.len false 5),jm 7 (ki 0)] [5,6,7] (.bl 0 (js [jb 8 .lss .i 7 6] [5,6,7,8] (.seq (.cond 8 .skip (.exit 0)) (.seq (.block 1 (js [ja 9 1 5 7,jk 10 9,jm 4 10] [4,5,6,7] (js [jm 11 4,jb 12 .neq .i 11 (ki 0)] [4,5,6,7,12] (.cond 12 (js [jm 13 4,jm 2 13] [2] .ret) .skip)))) (.reg none [jb 14 .add .i 7 (ki 1),jm 7 14] [5,6,7])))))) (js [jm 2 (ki 0)] [2] .ret))
def rv95:List RV:=[.t 2]
open Go.Proofs Go.IntWalk
set_option linter.unusedVariables false
set_option maxHeartbeats 4000000
def gC (g:G) (t:TE):List Int→LR Int Unit
 |[]=>
  (LR.out ())
 |z1::ls1=>
  br (g.eq z1 0)
  (
   gC g t ls1)
  (
   (LR.ret z1))
def oe (g:G) (t:TE) (a0:List Int):Int:=
 lP (gC g t a0) fun o1=>lrp o1 fun y1=>
 0
theorem AG {g:G} {t:TE} {a0:List Int} {r:Int} (hg:g=G.real) (ht:t=TE.real) (h:oe g t a0=r):Fn Tryz.prog 95 [.c (.s 1 (t.r_I64 a0))] (.c (.r (.v (.int .i64 r)))):=by
 obtain⟨X,hX⟩:=aC (.c (.r (.v (.int .i64 r))):X);rw[←hX];refine aA (rvs:=rv95) (j:=ir95) Tryz.func95 rfl (by kernel_rfl) (nb rfl) (by kernel_rfl) af ?_;intro g2 F hg2 hF;obtain rfl:g2=g:=hg2.unique.trans hg.symm;clear hg2;obtain⟨wrap,lt,_,eq,_,_,_,_,_,_,_,_,_,add,_,_,_,_,_,_,_,llen⟩:=g2;obtain⟨_,_,_,_,_,_,r_I64⟩:=t
 unfold oe at h;try dsimp only at h
 cbv;obtain⟨o1,ho1,h⟩:=ah h;try dsimp only at h
 try rw[hg] at ho1
 try rw[ht] at ho1
 refine ABL.mk {p:Nat×Int//p.1≤a0.length∧p.2=((p.1:Nat):Int)∧gC G.real TE.real (List.drop p.1 a0)=o1} (fun⟨⟨k1,v1⟩,_⟩=>({sl:=[(5,.c (.r (.s 1 (r_I64 a0)))),(6,.c (.r (.v (.int .i64 (llen (r_I64 a0)))))),(7,.c (.r (.v (.int .i64 v1))))],tab:=[]}:St)) 0 (fun p=>a0.length-p.1.1) ⟨(0,0),Nat.zero_le _,rfl,ho1⟩ (Unit) (fun _=>({sl:=[],tab:=[]}:St)) 0 (fun y=>o1=LR.out y) ?_ ?_ ?_
 ·refine Wk.of [] rfl rfl ?_ ?_
  ·cbv;all_goals exact⟨⟨_,rfl,rfl⟩,⟨_,rfl,rfl⟩,⟨_,rfl,rfl⟩,trivial⟩
  cbv;all_goals exact trivial
 ·rintro⟨⟨k1,v1⟩,hk1,hi1,h_1⟩ hq1;have hm1:=(hq1.1 5 _ _ rfl);try dsimp only at hk1 hi1 h_1
  clear hq1;cbv
  by_cases hc1_:k1<a0.length
  ·have hb1:lt v1 (llen (r_I64 a0))=true:=e8 hg ht hi1 hc1_;have hs1:=iM hg ht hi1 hc1_ hm1;obtain⟨z1,hz1⟩:=aX hc1_;rw[aH hz1] at h_1;rw[gC] at h_1;try rw[←hg] at h_1
   try rw[←ht] at h_1
   try dsimp only at h_1
   rw[hb1];cbv;refine AStep.mk (fP hi1) ?_;cbv;refine AGet.mk _ (fT hg ht hi1 hz1) ?_;cbv
   cases hb2:(eq z1 0)
   ·rw[aa hb2] at h_1;cbv;subst h_1;try dsimp only[lr,lrL,lrp,aZ] at h
    subst h;exact ARet.mk trivial hX.symm
   rw[ab hb2] at h_1;cbv;try rw[hg] at h_1
   try rw[ht] at h_1
   refine⟨⟨(k1+1,(wrap .i64 (add v1 1))),hc1_,hs1,h_1⟩,Wk.of [] rfl rfl ?_ ?_,bc hc1_⟩
   ·cbv;all_goals exact⟨⟨_,rfl,rfl⟩,⟨_,rfl,rfl⟩,⟨_,rfl,rfl⟩,trivial⟩
   cbv;all_goals exact trivial
  have hb1:lt v1 (llen (r_I64 a0))=false:=eE hg ht hi1 hc1_;rw[List.drop_of_length_le (Nat.le_of_not_lt hc1_)] at h_1;rw[gC] at h_1;try rw[←hg] at h_1
  try rw[←ht] at h_1
  try dsimp only at h_1
  rw[hb1];cbv;refine⟨(),Wk.of [] rfl rfl ?_ ?_,h_1.symm⟩
  ·cbv;all_goals exact trivial
  cbv;all_goals exact trivial
 rintro _ hy1;replace hy1:=hy1.symm;subst hy1;try dsimp only[lr,lrL,lrp,aZ] at h
 cbv;subst h;exact ARet.mk trivial hX.symm
def ir96:J:=js [jm 4 (ki 0)] [0,1] (.seq (.block 0 (js [jm 6 0,jm 7 1,jb 8 .lss .i 6 7,jm 5 8] [0,1,5] (.cond 5 (js [jq 4 (.mv (.k (V.i (-1))))] [4] .ret) (js [jm 10 0,jm 11 1,jb 12 .gtr .i 10 11,jm 9 12] [9] (.cond 9 (js [jm 4 (ki 1)] [4] .ret) .skip))))) (js [jm 4 (ki 0)] [4] .ret))
def rv96:List RV:=[.t 4]
def cB (g:G) (t:TE) (a0:Int) (a1:Int):Int:=
 br (g.lt a0 a1)
 (
  (-1))
 (
  br (g.lt a1 a0)
  (
   1)
  (
   0))
theorem eD {g:G} {t:TE} {a0:Int} {a1:Int} {r:Int} (hg:g=G.real) (ht:t=TE.real) (h:cB g t a0 a1=r):Fn Tryz.prog 96 [.c (.v (.int .i64 a0)),.c (.v (.int .i64 a1))] (.c (.r (.v (.int .i64 r)))):=by
 obtain⟨X,hX⟩:=aC (.c (.r (.v (.int .i64 r))):X);rw[←hX];refine aA (rvs:=rv96) (j:=ir96) Tryz.func96 rfl (by kernel_rfl) (nb rfl) (by kernel_rfl) af ?_;intro g2 F hg2 hF;obtain rfl:g2=g:=hg2.unique.trans hg.symm;clear hg2;obtain⟨_,lt⟩:=g2;obtain⟨_⟩:=t
 unfold cB at h;try dsimp only at h
 cbv
 cases hb1:(lt a0 a1)
 rotate_left
 ·rw[ab hb1] at h;cbv;subst h;exact ARet.mk trivial hX.symm
 rw[aa hb1] at h;cbv
 cases hb2:(lt a1 a0)
 rotate_left
 ·rw[ab hb2] at h;cbv;subst h;exact ARet.mk trivial hX.symm
 rw[aa hb2] at h;cbv;subst h;exact ARet.mk trivial hX.symm
open Go.Proofs Go.RowKit
set_option maxHeartbeats 1000000
theorem mA (a b:ByteArray) (w:Go.World):
 Calls Tryz.prog 142 #[.string a,.string b] w fun e w'=>e=.returned (.int .i64 (Lib.compareBytes a.data.toList b.data.toList))∧w'=w:=by
 go_enter Tryz.func142,Tryz.ntmps142
 go_wp2
 rw[run_callFunc_extern Tryz.func175 (by kernel_rfl) (by kernel_rfl) (by kernel_rfl) (e:=Extern.BytealgCompare.compare) (by kernel_rfl),Lib.run_compareString]
 simp only[Result.andThen]
 rw[Oper.upon_value]
 go_wp2
 go_ret
 exact⟨rfl,rfl⟩
theorem mz (a b:ByteArray) (w:Go.World):
 Calls Tryz.prog 97 #[.string a,.string b] w fun e w'=>e=.returned (.int .i64 (Lib.compareBytes a.data.toList b.data.toList))∧w'=w:=by
 go_enter Tryz.func97,Tryz.ntmps97
 go_wp2_with (go_at_call 142;refine(mA _ _ _).mono ?_;rintro e w' ⟨rfl,rfl⟩)
 go_ret
 exact⟨rfl,rfl⟩
def go (g:G) (t:TE) (a b:ByteArray):Int:=Lib.compareBytes a.data.toList b.data.toList
theorem mB {g:G} {t:TE} {a0 a1:ByteArray} {r:Int} (hg:g=G.real) (ht:t=TE.real) (h:go g t a0 a1=r):Fn Tryz.prog 97 [.c (.v (.string a0)),.c (.v (.string a1))] (.c (.r (.v (.int .i64 r)))):=by
 subst h;exact FR (xs:=[.string a0,.string a1]) rfl (fun w=>mz a0 a1 w)
def ir37:J:=js [jq 2 (.box 0),jq 3 (.box 1),jm 4 (ki 0)] [2,3] (.seq (.reg (some [[],[0],[],[2],[0,1,2,3],[],[5],[],[7],[0,1,2,3,4,5,6,7,8],[],[10],[],[12],[0,1,2,3,4,5,6,7,8,9,10,11,12,13],[],[15],[15,16],[],[18],[18,19],[0,1,2,3,4,5,6,7,8,9,10,11,12,13,14,15,16,17,18,19,20],[],[22],[22,23],[],[25],[25,26],[0,1,2,3,4,5,6,7,8,9,10,11,12,13,14,15,16,17,18,19,20,21,22,23,24,25,26,27],[],[29],[],[31],[0,1,2,3,4,5,6,7,8,9,10,11,12,13,14,15,16,17,18,19,20,21,22,23,24,25,26,27,28,29,30,31,32],[0,1,2,3,4,5,6,7,8,9,10,11,12,13,14,15,16,17,18,19,20,21,22,23,24,25,26,27,28,29,30,31,32,33],[0,1,2,3,4,5,6,7,8,9,10,11,12,13,14,15,16,17,18,19,20,21,22,23,24,25,26,27,28,29,30,31,32,33,34],[0,1,2,3,4,5,6,7,8,9,10,11,12,13,14,15,16,17,18,19,20,21,22,23,24,25,26,27,28,29,30,31,32,33,34,35]]) [jf 5 1 2,jk 6 5,jf 7 1 3,jk 8 7,jc 9 96 [6,8],jf 10 0 2,jk 11 10,jf 12 0 3,jk 13 12,jc 14 96 [11,13],jf 15 2 2,jk 16 15,jf 17 2 3,jk 18 17,jc 19 96 [16,18],jf 20 4 2,jf 21 1 20,jk 22 21,jf 23 4 3,jf 24 1 23,jk 25 24,jc 26 96 [22,25],jf 27 4 2,jf 28 0 27,jk 29 28,jf 30 4 3,jf 31 0 30,jk 32 31,jc 33 96 [29,32],jf 34 3 2,jk 35 34,jf 36 3 3,jk 37 36,jc 38 97 [35,37],jq 39 (.bsl 1 [9,14,19,26,33,38]),jc 40 95 [39],jm 4 40] [4]) .ret)
def rv37:List RV:=[.t 4]
def bg (g:G) (t:TE) (a0:Scan) (a1:Scan):Int:=
 lP (cB g t a0.At a1.At) fun x1=>
 lP (cB g t a0.Thing a1.Thing) fun x2=>
 lP (cB g t a0.Kind a1.Kind) fun x3=>
 lP (cB g t a0.Trip.Day a1.Trip.Day) fun x4=>
 lP (cB g t a0.Trip.Leg a1.Trip.Leg) fun x5=>
 lP (go g t a0.Place a1.Place) fun x6=>
 lP ([x1,x2,x3,x4,x5,x6]) fun(l1:List Int)=>
 lP (oe g t l1) fun x7=>
 x7
theorem g0 {g:G} {t:TE} {a0:Scan} {a1:Scan} {r:Int} (hg:g=G.real) (ht:t=TE.real) (h:bg g t a0 a1=r):Fn Tryz.prog 37 [.g (Scan.rs t a0),.g (Scan.rs t a1)] (.c (.r (.v (.int .i64 r)))):=by
 obtain⟨X,hX⟩:=aC (.c (.r (.v (.int .i64 r))):X);rw[←hX];refine aA (rvs:=rv37) (j:=ir37) Tryz.func37 rfl (by kernel_rfl) (nb rfl) (by kernel_rfl) af ?_;intro g2 F hg2 hF;obtain rfl:g2=g:=hg2.unique.trans hg.symm;clear hg2;obtain⟨_,_,_,_,_,_,_,_,_,_,_,_,_,_,_,_,_,_,_,_,_,_,_,_,dlen,_,_,_,rd⟩:=g2;obtain⟨_,_,_,_,_,_,r_I64,d_I64⟩:=t
 obtain⟨a0_Thing,a0_At,a0_Kind,a0_Place,⟨a0_Trip_Leg,a0_Trip_Day⟩⟩:=a0;obtain⟨a1_Thing,a1_At,a1_Kind,a1_Place,⟨a1_Trip_Leg,a1_Trip_Day⟩⟩:=a1;unfold bg at h;try dsimp only at h
 cbv;obtain⟨x1,hx1,h⟩:=ah h;try dsimp only at h
 refine ACall.mk _ _ rfl (hF _ _ _ (eD hg ht hx1)) (.inl rfl) (nb rfl) ?_;cbv;obtain⟨x2,hx2,h⟩:=ah h;try dsimp only at h
 refine ACall.mk _ _ rfl (hF _ _ _ (eD hg ht hx2)) (.inl rfl) (nb rfl) ?_;cbv;obtain⟨x3,hx3,h⟩:=ah h;try dsimp only at h
 refine ACall.mk _ _ rfl (hF _ _ _ (eD hg ht hx3)) (.inl rfl) (nb rfl) ?_;cbv;obtain⟨x4,hx4,h⟩:=ah h;try dsimp only at h
 refine ACall.mk _ _ rfl (hF _ _ _ (eD hg ht hx4)) (.inl rfl) (nb rfl) ?_;cbv;obtain⟨x5,hx5,h⟩:=ah h;try dsimp only at h
 refine ACall.mk _ _ rfl (hF _ _ _ (eD hg ht hx5)) (.inl rfl) (nb rfl) ?_;cbv;obtain⟨x6,hx6,h⟩:=ah h;try dsimp only at h
 refine ACall.mk _ _ rfl (hF _ _ _ (mB hg ht hx6)) (.inl rfl) (nb rfl) ?_;cbv;obtain⟨l1,hl1,h⟩:=ah h;try dsimp only at h
 refine ANew.mk (d_I64 l1) (dlen (d_I64 l1)) (by rw[←hl1];exact cS hg ht [x1,x2,x3,x4,x5,x6]) (by rw[←hl1];exact co hg ht [x1,x2,x3,x4,x5,x6]) ?_;cbv;refine AStep.mk (rA ht (al hg ht _)) ?_;cbv;obtain⟨x7,hx7,h⟩:=ah h;try dsimp only at h
 refine ACall.mk _ _ (by rw[show rd (d_I64 l1) 0 (dlen (d_I64 l1))=r_I64 l1 from vn hg ht (al hg ht _)];try rfl) (hF _ _ _ (AG hg ht hx7)) (.inr rfl) (nb rfl) ?_
 cbv;subst h;exact ARet.mk trivial hX.symm
def ir94:J:=js [jq 2 (.box 0),jq 3 (.box 1),jm 4 (ki 0)] [2,3] (js [jf 8 1 2,jk 9 8,jf 10 0 2,jk 11 10,jf 12 2 2,jk 13 12,jf 14 4 2,jf 15 1 14,jk 16 15,jf 17 4 2,jf 18 0 17,jk 19 18,jq 20 (.bsl 1 [9,11,13,16,19]),jm 5 20] [2,3,5] (js [jf 21 1 3,jk 22 21,jf 23 0 3,jk 24 23,jf 25 2 3,jk 26 25,jf 27 4 3,jf 28 1 27,jk 29 28,jf 30 4 3,jf 31 0 30,jk 32 31,jq 33 (.bsl 1 [22,24,26,29,32]),jm 6 33] [2,3,5,6] (.seq (js [jm 7 (ki 0)] [2,3,5,6,7] (.bl 0 (.seq (js [jm 34 7,jm 35 5,jq 36 (.len false 35),jb 37 .lss .i 34 36] [2,3,5,6,7,37] (.cond 37 .skip (.exit 0))) (.seq (.block 1 (.seq (.seq (.reg (some [[],[],[0,1],[0,1,2],[],[],[4,5],[4,5,6],[0,1,2,3,4,5,6,7]]) [jm 40 5,jm 41 7,ja 42 1 40 41,jk 43 42,jm 44 6,jm 45 7,ja 46 1 44 45,jk 47 46,jb 48 .lss .i 43 47] [2,3,5,6,7,48]) (.cond 48 (js [jq 4 (.mv (.k (V.i (-1))))] [4] .ret) .skip)) (.seq (.reg (some [[],[],[0,1],[0,1,2],[],[],[4,5],[4,5,6],[0,1,2,3,4,5,6,7]]) [jm 49 5,jm 50 7,ja 51 1 49 50,jk 52 51,jm 53 6,jm 54 7,ja 55 1 53 54,jk 56 55,jb 57 .gtr .i 52 56] [2,3,5,6,7,57]) (.cond 57 (js [jm 4 (ki 1)] [4] .ret) .skip)))) (.reg none [jm 38 7,jb 39 .add .i 38 (ki 1),jm 7 39] [2,3,5,6,7]))))) (.seq (.block 2 (js [jf 59 3 2,jk 60 59,jf 61 3 3,jk 62 61,jb 63 .lss .s 60 62,jm 58 63] [2,3,58] (.cond 58 (js [jq 4 (.mv (.k (V.i (-1))))] [4] .ret) (js [jf 65 3 2,jk 66 65,jf 67 3 3,jk 68 67,jb 69 .gtr .s 66 68,jm 64 69] [64] (.cond 64 (js [jm 4 (ki 1)] [4] .ret) .skip))))) (js [jm 4 (ki 0)] [4] .ret)))))
def rv94:List RV:=[.t 4]
def bo (g:G) (t:TE) (l1:List Int) (l2:List Int):Nat→Int→Option (LR Int Unit)
 |0,v1=>
  some (LR.out ())
 |n1+1,v1=>
  gt l1 (g.nat v1) fun x1=>
  gd (((0:Int)≤v1∧v1<(((g.dlen (t.d_I64 l2)):Nat):Int)))<|
  gt l2 (g.nat v1) fun x2=>
  br (g.lt x1 x2)
  (
   some (LR.ret (-1)))
  (
   gd (((0:Int)≤v1∧v1<(((g.dlen (t.d_I64 l2)):Nat):Int)))<|
   br (g.lt x2 x1)
   (
    some (LR.ret 1))
   (
    bo g t l1 l2 n1 (g.wrap .i64 (g.add v1 1))))
def de (g:G) (t:TE) (a0:Scan) (a1:Scan):Option Int:=
 lP ([a0.At,a0.Thing,a0.Kind,a0.Trip.Day,a0.Trip.Leg]) fun(l1:List Int)=>
 lP ([a1.At,a1.Thing,a1.Kind,a1.Trip.Day,a1.Trip.Leg]) fun(l2:List Int)=>
 gd (((g.int (g.dlen (t.d_I64 l1)))≤9223372036854775807))<|
 cl (bo g t l1 l2 (ap 0 (g.int (g.dlen (t.d_I64 l1)))) 0) fun o1=>lr o1 fun y1=>
 br (g.slt a0.Place a1.Place)
 (
  some (-1))
 (
  br (g.sle a0.Place a1.Place)
  (
   some 0)
  (
   some 1))
theorem kx {g:G} {t:TE} {a0:Scan} {a1:Scan} {r:Int} (hg:g=G.real) (ht:t=TE.real) (h:de g t a0 a1=some r):Fn Tryz.prog 94 [.g (Scan.rs t a0),.g (Scan.rs t a1)] (.c (.r (.v (.int .i64 r)))):=by
 obtain⟨X,hX⟩:=aC (.c (.r (.v (.int .i64 r))):X);rw[←hX];refine aA (rvs:=rv94) (j:=ir94) Tryz.func94 rfl (by kernel_rfl) (nb rfl) (by kernel_rfl) af ?_;intro g2 F hg2 hF;obtain rfl:g2=g:=hg2.unique.trans hg.symm;clear hg2;obtain⟨wrap,lt,_,_,_,_,_,_,_,_,_,_,int,add,_,_,_,_,slt,_,_,_,_,_,dlen,_,_,_,_,_,_,_,_,_,sle⟩:=g2;obtain⟨_,_,_,_,_,_,_,d_I64⟩:=t
 obtain⟨a0_Thing,a0_At,a0_Kind,a0_Place,⟨a0_Trip_Leg,a0_Trip_Day⟩⟩:=a0;obtain⟨a1_Thing,a1_At,a1_Kind,a1_Place,⟨a1_Trip_Leg,a1_Trip_Day⟩⟩:=a1;unfold de at h;try dsimp only at h
 cbv;obtain⟨l1,hl1,h⟩:=ah h;try dsimp only at h
 refine ANew.mk (d_I64 l1) (dlen (d_I64 l1)) (by rw[←hl1];exact cS hg ht [a0_At,a0_Thing,a0_Kind,a0_Trip_Day,a0_Trip_Leg]) (by rw[←hl1];exact co hg ht [a0_At,a0_Thing,a0_Kind,a0_Trip_Day,a0_Trip_Leg]) ?_;cbv;obtain⟨l2,hl2,h⟩:=ah h;try dsimp only at h
 refine ANew.mk (d_I64 l2) (dlen (d_I64 l2)) (by rw[←hl2];exact cS hg ht [a1_At,a1_Thing,a1_Kind,a1_Trip_Day,a1_Trip_Leg]) (by rw[←hl2];exact co hg ht [a1_At,a1_Thing,a1_Kind,a1_Trip_Day,a1_Trip_Leg]) ?_;cbv;obtain⟨hB1,h⟩:=ak h;obtain⟨o1,ho1,h⟩:=ae h;try dsimp only at h
 try rw[hg] at ho1
 try rw[ht] at ho1
 refine ABL.mk {p:Nat×Int//p.1=ap p.2 (int (dlen (d_I64 l1)))∧0≤p.2∧bo G.real TE.real l1 l2 p.1 p.2=some o1} (fun⟨⟨n1,v1⟩,_⟩=>({sl:=[(2,.c (.p 0 6 0 0)),(3,.c (.p 1 6 0 0)),(5,.c (.f 2 1 0 (dlen (d_I64 l1)))),(6,.c (.f 3 1 0 (dlen (d_I64 l2)))),(7,.c (.r (.v (.int .i64 v1))))],tab:=[(0,some (.foc 6 [] [.r (.v (.int .i64 a0_Thing)),.r (.v (.int .i64 a0_At)),.r (.v (.int .i64 a0_Kind)),.r (.v (.string a0_Place)),.r (.v (.int .i64 a0_Trip_Leg)),.r (.v (.int .i64 a0_Trip_Day))] [])),(1,some (.foc 6 [] [.r (.v (.int .i64 a1_Thing)),.r (.v (.int .i64 a1_At)),.r (.v (.int .i64 a1_Kind)),.r (.v (.string a1_Place)),.r (.v (.int .i64 a1_Trip_Leg)),.r (.v (.int .i64 a1_Trip_Day))] [])),(2,some (.arr 1 (d_I64 l1))),(3,some (.arr 1 (d_I64 l2)))]}:St)) 4 (fun p=>p.1.1) ⟨(ap 0 (int (dlen (d_I64 l1))),0),rfl,Int.le_refl _,ho1⟩ (Unit) (fun _=>({sl:=[(2,.c (.p 0 6 0 0)),(3,.c (.p 1 6 0 0))],tab:=[(0,some (.foc 6 [] [.r (.v (.int .i64 a0_Thing)),.r (.v (.int .i64 a0_At)),.r (.v (.int .i64 a0_Kind)),.r (.v (.string a0_Place)),.r (.v (.int .i64 a0_Trip_Leg)),.r (.v (.int .i64 a0_Trip_Day))] [])),(1,some (.foc 6 [] [.r (.v (.int .i64 a1_Thing)),.r (.v (.int .i64 a1_At)),.r (.v (.int .i64 a1_Kind)),.r (.v (.string a1_Place)),.r (.v (.int .i64 a1_Trip_Leg)),.r (.v (.int .i64 a1_Trip_Day))] []))]}:St)) 2 (fun y=>o1=LR.out y) ?_ ?_ ?_
 ·refine Wk.of [(0,some 0),(1,some 16),(2,some 240),(3,some 464)] rfl rfl ?_ ?_
  ·cbv;all_goals exact⟨⟨_,rfl,rfl⟩,⟨_,rfl,rfl⟩,⟨_,rfl,rfl⟩,⟨_,rfl,rfl⟩,⟨_,rfl,rfl⟩,trivial⟩
  cbv;all_goals exact⟨⟨_,rfl,_,rfl,rfl,rfl,rfl,rfl,rfl,rfl,trivial⟩,⟨_,rfl,_,rfl,rfl,rfl,rfl,rfl,rfl,rfl,trivial⟩,⟨_,rfl,rfl⟩,⟨_,rfl,rfl⟩,trivial⟩
 ·rintro⟨⟨n1,v1⟩,hn1,hi1,h_1⟩ hq1;try dsimp only at hn1 hi1 h_1
  clear hq1;cbv;rcases n1 with _|n1
  ·have hb1:lt v1 (int (dlen (d_I64 l1)))=false:=ba hg hn1;rw[bo] at h_1;try rw[←hg] at h_1
   try rw[←ht] at h_1
   try dsimp only at h_1
   rw[hb1];cbv;refine⟨(),Wk.of [(0,some 0),(1,some 1)] rfl rfl ?_ ?_,(Option.some.inj h_1).symm⟩
   ·cbv;all_goals exact⟨⟨_,rfl,rfl⟩,⟨_,rfl,rfl⟩,trivial⟩
   cbv;all_goals exact⟨⟨_,rfl,_,rfl,rfl,rfl,rfl,rfl,rfl,rfl,trivial⟩,⟨_,rfl,_,rfl,rfl,rfl,rfl,rfl,rfl,rfl,trivial⟩,trivial⟩
  have hb1:lt v1 (int (dlen (d_I64 l1)))=true:=bt hg hn1;have hl1:=cR hn1;have hs1:=bS hg hn1 hi1 hB1 (by decide);rw[bo] at h_1;try rw[←hg] at h_1
  try rw[←ht] at h_1
  try dsimp only at h_1
  rw[hb1];cbv;refine AStep.mk (di hg hi1 hl1) ?_;cbv;obtain⟨x1,hx1,h_1⟩:=aE h_1;try dsimp only at h_1
  refine AGet.mk _ (bB hg ht hx1) ?_;cbv;obtain⟨hc1,h_1⟩:=ak h_1;refine AStep.mk hc1 ?_;cbv;obtain⟨x2,hx2,h_1⟩:=aE h_1;try dsimp only at h_1
  refine AGet.mk _ (bB hg ht hx2) ?_;cbv
  cases hb2:(lt x1 x2)
  rotate_left
  ·rw[ab hb2] at h_1;cbv;obtain rfl:=Option.some.inj h_1;try dsimp only[lr,lrL,lrp,aZ] at h
   obtain rfl:=Option.some.inj h;exact ARet.mk trivial hX.symm
  rw[aa hb2] at h_1;cbv;refine AStep.mk (di hg hi1 hl1) ?_;cbv;refine AGet.mk _ (bB hg ht hx1) ?_;cbv;obtain⟨hc2,h_1⟩:=ak h_1;refine AStep.mk hc2 ?_;cbv;refine AGet.mk _ (bB hg ht hx2) ?_;cbv
  cases hb3:(lt x2 x1)
  rotate_left
  ·rw[ab hb3] at h_1;cbv;obtain rfl:=Option.some.inj h_1;try dsimp only[lr,lrL,lrp,aZ] at h
   obtain rfl:=Option.some.inj h;exact ARet.mk trivial hX.symm
  rw[aa hb3] at h_1;cbv;try rw[hg] at h_1
  try rw[ht] at h_1
  refine⟨⟨(n1,(wrap .i64 (add v1 1))),hs1.1,hs1.2,h_1⟩,Wk.of [(0,some 0),(1,some 1),(2,some 2),(3,some 3)] rfl rfl ?_ ?_,Nat.lt_succ_self _⟩
  ·cbv;all_goals exact⟨⟨_,rfl,rfl⟩,⟨_,rfl,rfl⟩,⟨_,rfl,rfl⟩,⟨_,rfl,rfl⟩,⟨_,rfl,rfl⟩,trivial⟩
  cbv;all_goals exact⟨⟨_,rfl,_,rfl,rfl,rfl,rfl,rfl,rfl,rfl,trivial⟩,⟨_,rfl,_,rfl,rfl,rfl,rfl,rfl,rfl,rfl,trivial⟩,⟨_,rfl,rfl⟩,⟨_,rfl,rfl⟩,trivial⟩
 rintro _ hy1;replace hy1:=hy1.symm;subst hy1;try dsimp only[lr,lrL,lrp,aZ] at h
 cbv
 cases hb4:(slt a0_Place a1_Place)
 rotate_left
 ·rw[ab hb4] at h;cbv;obtain rfl:=Option.some.inj h;exact ARet.mk trivial hX.symm
 rw[aa hb4] at h;cbv
 cases hb5:(sle a0_Place a1_Place)
 rotate_left
 ·rw[ab hb5] at h;cbv;obtain rfl:=Option.some.inj h;exact ARet.mk trivial hX.symm
 rw[aa hb5] at h;cbv;obtain rfl:=Option.some.inj h;exact ARet.mk trivial hX.symm
end Go.Vs
namespace Go.Vs
open Go.IntWalk
theorem r8:∀(a b:List UInt8),Op.bytesLess a b=decide (Lib.compareBytes a b<0)
 |[],[]=>rfl
 |[],_::_=>rfl
 |_::_,[]=>rfl
 |a::x,b::y=>by
  rw[Op.bytesLess,Lib.compareBytes,r8 x y]
  by_cases h:a<b
  ·simp[h]
  ·by_cases h2:b<a
   ·have:a≠b:=fun e=>absurd (e▸h2) (UInt8.lt_irrefl _)
    simp[h,h2,this]
   ·have:a=b:=UInt8.le_antisymm (UInt8.not_lt.1 h2) (UInt8.not_lt.1 h)
    simp[this,UInt8.lt_irrefl]
theorem yd:∀(a b:List UInt8),(a==b)=decide (Lib.compareBytes a b=0)
 |[],[]=>rfl
 |[],_::_=>rfl
 |_::_,[]=>rfl
 |a::x,b::y=>by
  have:=yd x y
  rw[Lib.compareBytes]
  by_cases h:a<b
  ·have:a≠b:=fun e=>absurd (e▸h) (UInt8.lt_irrefl _)
   simp[h,this]
  ·by_cases h2:b<a
   ·have:a≠b:=fun e=>absurd (e▸h2) (UInt8.lt_irrefl _)
    simp[h,h2,this]
   ·have e:a=b:=UInt8.le_antisymm (UInt8.not_lt.1 h2) (UInt8.not_lt.1 h)
    subst e
    rw[if_neg h,if_neg h,←this]
    simp
theorem z8:∀(a b:List UInt8),Lib.compareBytes a b= -1∨Lib.compareBytes a b=0∨Lib.compareBytes a b=1
 |[],[]=>.inr (.inl rfl)
 |[],_::_=>.inl rfl
 |_::_,[]=>.inr (.inr rfl)
 |a::x,b::y=>by
  rw[Lib.compareBytes]
  by_cases h:a<b
  ·rw[if_pos h];exact .inl rfl
  ·rw[if_neg h]
   by_cases h2:b<a
   ·rw[if_pos h2];exact .inr (.inr rfl)
   ·rw[if_neg h2];exact z8 x y
theorem Ez (a b:ByteArray):G.real.slt a b=decide (Lib.compareBytes a.data.toList b.data.toList<0):=by
 show Op.bytesLess a.toList b.toList=_
 rw[ByteArray.toList_eq,ByteArray.toList_eq,r8]
theorem D4 (a b:ByteArray):G.real.sle a b=decide (Lib.compareBytes a.data.toList b.data.toList≤0):=by
 show(Op.bytesLess a.toList b.toList||a.toList==b.toList)=_
 rw[ByteArray.toList_eq,ByteArray.toList_eq,r8,yd,←Bool.decide_or]
 congr 1
 apply propext
 omega
def fH (x y:Int):Int:=if x<y then-1 else if y<x then 1 else 0
theorem DZ (x y:Int):cB G.real TE.real x y=fH x y:=by
 unfold cB fH
 simp only[dR,am]
def fm:List Int→Int
 |[]=>0
 |x::l=>if x=0 then fm l else x
theorem CH (l:List Int):oe G.real TE.real l=fm l:=by
 unfold oe
 simp only[a9]
 induction l with
 |nil=>rfl
 |cons x l ih=>
  rw[gC,fm]
  simp only[dM,am]
  by_cases h:x=0
  ·rw[if_pos h,if_pos h];exact ih
  ·rw[if_neg h,if_neg h];rfl
theorem EJ (a b:Scan):bg G.real TE.real a b=
 fm [fH a.At b.At,fH a.Thing b.Thing,fH a.Kind b.Kind,fH a.Trip.Day b.Trip.Day,fH a.Trip.Leg b.Trip.Leg,Lib.compareBytes a.Place.data.toList b.Place.data.toList]:=by
 unfold bg
 simp only[a9,DZ,CH,go]
theorem iY (l1 l2:List Int) (n i:Nat) (x y:Int) (h1:l1[i]?=some x) (h2:l2[i]?=some y) (hi:i<100):
 bo G.real TE.real l1 l2 (n+1) (i:Int)=if fH x y=0 then bo G.real TE.real l1 l2 n ((i+1:Nat):Int) else some (.ret (fH x y)):=by
 rw[bo]
 have hl:i<l2.length:=by
  rcases Nat.lt_or_ge i l2.length with h|h
  ·exact h
  ·rw[List.getElem?_eq_none h] at h2;cases h2
 simp only[bp,Int.toNat_natCast,bQ,bq]
 rw[aq h1,aj ⟨by omega,by omega⟩,aq h2,w64 (by omega) (by omega)]
 simp only[dR,am]
 unfold fH
 by_cases c1:x<y
 ·simp[c1]
 ·rw[if_neg c1,if_neg c1,aj ⟨by omega,by omega⟩]
  by_cases c2:y<x
  ·simp[c2]
  ·simp[c2]
theorem EE (a b:Scan):de G.real TE.real a b=some (bg G.real TE.real a b):=by
 rw[EJ]
 unfold de
 simp only[a9,bQ,dz,List.length_cons,List.length_nil]
 rw[aj (by decide),show ap 0 (((0+1+1+1+1+1:Nat):Int))=4+1 from rfl,show(0:Int)=((0:Nat):Int) from rfl]
 rw[iY _ _ 4 0 a.At b.At rfl rfl (by omega)]
 simp only[fm]
 by_cases e0:fH a.At b.At=0
 ·rw[if_pos e0,if_pos e0,iY _ _ 3 1 a.Thing b.Thing rfl rfl (by omega)]
  by_cases e1:fH a.Thing b.Thing=0
  ·rw[if_pos e1,if_pos e1,iY _ _ 2 2 a.Kind b.Kind rfl rfl (by omega)]
   by_cases e2:fH a.Kind b.Kind=0
   ·rw[if_pos e2,if_pos e2,iY _ _ 1 3 a.Trip.Day b.Trip.Day rfl rfl (by omega)]
    by_cases e3:fH a.Trip.Day b.Trip.Day=0
    ·rw[if_pos e3,if_pos e3,iY _ _ 0 4 a.Trip.Leg b.Trip.Leg rfl rfl (by omega)]
     by_cases e4:fH a.Trip.Leg b.Trip.Leg=0
     ·rw[if_pos e4,if_pos e4,bo]
      simp only[ag,mL,Ez,D4,am]
      rcases z8 a.Place.data.toList b.Place.data.toList with h|h|h<;>rw[h]<;>rfl
     ·rw[if_neg e4,if_neg e4];rfl
    ·rw[if_neg e3,if_neg e3];rfl
   ·rw[if_neg e2,if_neg e2];rfl
  ·rw[if_neg e1,if_neg e1];rfl
 ·rw[if_neg e0,if_neg e0];rfl
end Go.Vs
namespace Go.Vs
open Go.IntWalk
structure C3 {α:Type} (c:α→α→Int):Prop where
 anti:∀a b,c b a= -c a b
 tr:∀a b d,c a b≤0→c b d≤0→c a d≤0
theorem C3.refl {α:Type} {c:α→α→Int} (h:C3 c) (a:α):c a a=0:=by have:=h.anti a a;omega
def lex {α:Type} (c d:α→α→Int) (a b:α):Int:=if c a b=0 then d a b else c a b
theorem C3.lex {α:Type} {c d:α→α→Int} (h:C3 c) (k:C3 d):C3 (lex c d):={
 anti a b:=by
  unfold Vs.lex
  have h1:=h.anti a b
  have h2:=k.anti a b
  split<;>split<;>omega
 tr a b e:=by
  unfold Vs.lex
  have h1:=h.tr a b e
  have h2:=h.tr e a b
  have h3:=h.tr b e a
  have h4:=h.anti a b
  have h5:=h.anti a e
  have h6:=h.anti b e
  have h7:=k.tr a b e
  split<;>split<;>split<;>omega }
theorem C3.of {α β:Type} {c:β→β→Int} (h:C3 c) (f:α→β):C3 fun a b=>c (f a) (f b):=⟨fun _ _=>h.anti _ _,fun _ _ _=>h.tr _ _ _⟩
theorem nX:C3 fH :={
 anti a b:=by unfold fH;split<;>split<;>(try split)<;>omega
 tr a b d:=by unfold fH;split<;>split<;>(try split)<;>(try split)<;>(try split)<;>omega }
theorem iP {a b:Int} (h:fH a b=0):a=b:=by unfold fH at h;split at h<;>(try split at h)<;>omega
theorem zx:∀a b:List UInt8,Lib.compareBytes b a= -Lib.compareBytes a b
 |[],[]=>rfl
 |[],_::_=>rfl
 |_::_,[]=>rfl
 |a::x,b::y=>by
  rw[Lib.compareBytes,Lib.compareBytes,zx x y]
  by_cases h:a<b
  ·have h2:¬b<a:=fun e=>absurd (UInt8.lt_trans h e) (UInt8.lt_irrefl _)
   rw[if_pos h,if_neg h2,if_pos h];rfl
  ·by_cases h2:b<a
   ·rw[if_pos h2,if_neg h,if_pos h2]
   ·rw[if_neg h2,if_neg h,if_neg h,if_neg h2]
theorem EK:∀a b d:List UInt8,Lib.compareBytes a b≤0→Lib.compareBytes b d≤0→Lib.compareBytes a d≤0
 |[],_,[],_,_=>by simp[Lib.compareBytes]
 |[],_,_::_,_,_=>by simp[Lib.compareBytes]
 |_::_,[],_,h,_=>by simp[Lib.compareBytes] at h
 |_::_,_::_,[],_,h=>by simp[Lib.compareBytes] at h
 |a::x,b::y,d::z,h1,h2=>by
  rw[Lib.compareBytes] at h1 h2 ⊢
  have ih:=EK x y z
  by_cases e1:a<b
  ·by_cases e2:b<d
   ·rw[if_pos (UInt8.lt_trans e1 e2)];decide
   ·rw[if_neg e2] at h2
    by_cases e3:d<b
    ·rw[if_pos e3] at h2;exact absurd h2 (by decide)
    ·have:b=d:=UInt8.le_antisymm (UInt8.not_lt.1 e3) (UInt8.not_lt.1 e2)
     subst this
     rw[if_pos e1];decide
  ·rw[if_neg e1] at h1
   by_cases e4:b<a
   ·rw[if_pos e4] at h1;exact absurd h1 (by decide)
   ·have:a=b:=UInt8.le_antisymm (UInt8.not_lt.1 e4) (UInt8.not_lt.1 e1)
    subst this
    rw[if_neg e4] at h1
    by_cases e2:a<d
    ·rw[if_pos e2];decide
    ·rw[if_neg e2] at h2 ⊢
     by_cases e3:d<a
     ·rw[if_pos e3] at h2;exact absurd h2 (by decide)
     ·rw[if_neg e3] at h2 ⊢
      exact ih h1 h2
theorem HG:C3 Lib.compareBytes:=⟨zx,EK⟩
def cmS (a b:Scan):Int:=fm [fH a.At b.At,fH a.Thing b.Thing,fH a.Kind b.Kind,fH a.Trip.Day b.Trip.Day,fH a.Trip.Leg b.Trip.Leg,Lib.compareBytes a.Place.data.toList b.Place.data.toList]
theorem FN (a b:Scan):bg G.real TE.real a b=cmS a b:=EJ a b
theorem cm_s (a b:Scan):de G.real TE.real a b=some (cmS a b):=by rw[EE,FN]
theorem wC (x:Int):fm [x]=x:=by simp only[fm];split<;>omega
theorem vx:cmS=lex (fun a b:Scan=>fH a.At b.At) (lex (fun a b=>fH a.Thing b.Thing) (lex (fun a b=>fH a.Kind b.Kind) (lex (fun a b=>fH a.Trip.Day b.Trip.Day) (lex (fun a b=>fH a.Trip.Leg b.Trip.Leg) (fun a b=>Lib.compareBytes a.Place.data.toList b.Place.data.toList))))):=by
 funext a b
 unfold cmS
 simp only[lex]
 rw[fm,fm,fm,fm,fm,wC]
theorem gT:C3 cmS:=by
 rw[vx]
 exact(nX.of Scan.At).lex<|(nX.of Scan.Thing).lex<|(nX.of Scan.Kind).lex<|(nX.of fun s:Scan=>s.Trip.Day).lex<|(nX.of fun s:Scan=>s.Trip.Leg).lex<|HG.of fun s:Scan=>s.Place.data.toList
theorem lJ {α:Type} {c d:α→α→Int} {a b:α} (h:lex c d a b=0):c a b=0∧d a b=0:=by
 unfold lex at h
 split at h
 ·exact⟨‹_›,h⟩
 ·exact absurd h ‹_›
theorem lR {a b:Scan} (h:cmS a b=0):a=b:=by
 rw[vx] at h
 obtain⟨h1,h⟩:=lJ h
 obtain⟨h2,h⟩:=lJ h
 obtain⟨h3,h⟩:=lJ h
 obtain⟨h4,h⟩:=lJ h
 obtain⟨h5,h6⟩:=lJ h
 have h7:=yd a.Place.data.toList b.Place.data.toList
 rw[decide_eq_true h6] at h7
 have h8:=iP h1
 have h9:=iP h2
 have h10:=iP h3
 have h11:=iP h4
 have h12:=iP h5
 have h13:a.Place=b.Place:=by
  have:=eq_of_beq h7
  cases hA:a.Place with
  |mk x=>cases hB:b.Place with
   |mk y=>rw[hA,hB] at this;cases x;cases y;simp at this;subst this;rfl
 cases a with
 |mk t1 a1 k1 p1 tr1=>cases b with
  |mk t2 a2 k2 p2 tr2=>cases tr1;cases tr2;simp_all
theorem xB (a:Scan):cmS a a=0:=gT.refl a
theorem kK {a b c:Scan} (h1:cmS a b<0) (h2:cmS b c<0):cmS a c<0:=by
 have h3:=gT.tr a b c (by omega) (by omega)
 rcases Int.lt_or_eq_of_le h3 with h|h
 ·exact h
 ·have:=lR h
  subst this
  have:=gT.anti a b
  omega
theorem oF:∀{l m:List Scan},l.Pairwise (fun a b=>cmS a b<0)→m.Pairwise (fun a b=>cmS a b<0)→(∀x,x∈l↔x∈m)→l=m
 |[],[],_,_,_=>rfl
 |[],y::m,_,_,h=>by have:=(h y).2 (by simp);simp at this
 |x::l,[],_,_,h=>by have:=(h x).1 (by simp);simp at this
 |x::l,y::m,hl,hm,h=>by
  obtain⟨l1,l2⟩:=List.pairwise_cons.1 hl
  obtain⟨m1,m2⟩:=List.pairwise_cons.1 hm
  have irr:∀a:Scan,¬cmS a a<0:=fun a=>by rw[xB];decide
  have hxy:x=y:=by
   have hx:=(h x).1 (by simp)
   have hy:=(h y).2 (by simp)
   rcases List.mem_cons.1 hx with e|hx
   ·exact e
   ·rcases List.mem_cons.1 hy with e|hy
    ·exact e.symm
    ·exact absurd (kK (l1 _ hy) (m1 _ hx)) (irr _)
  subst hxy
  congr 1
  refine oF l2 m2 fun z=>?_
  have hz:=h z
  simp only[List.mem_cons] at hz
  constructor
  ·intro hzl
   rcases hz.1 (.inr hzl) with e|e
   ·subst e;exact absurd (l1 _ hzl) (irr _)
   ·exact e
  ·intro hzm
   rcases hz.2 (.inr hzm) with e|e
   ·subst e;exact absurd (m1 _ hzm) (irr _)
   ·exact e
end Go.Vs
namespace Go.Vs
open Go.IntWalk
def leS (a b:Scan):Bool:= !decide (cmS b a<0)
theorem oo (a b:Scan):leS a b=true↔cmS a b≤0:=by
 have:=gT.anti a b
 simp[leS];omega
theorem CK (a b c:Scan) (h1:leS a b=true) (h2:leS b c=true):leS a c=true:=by
 rw[oo] at h1 h2 ⊢
 exact gT.tr _ _ _ h1 h2
theorem DB (a b:Scan):(leS a b||leS b a)=true:=by
 have:=gT.anti a b
 rw[Bool.or_eq_true,oo,oo];omega
theorem E0 (a b:Scan) (h1:leS a b=true) (h2:leS b a=true):a=b:=by
 have:=gT.anti a b
 rw[oo] at h1 h2
 exact lR (by omega)
def od (l:List Scan):Prop:=l.Pairwise fun a b=>cmS a b<0
def ddF:Option Scan→List Scan→List Scan
 |_,[]=>[]
 |none,x::l=>x::ddF (some x) l
 |some p,x::l=>if cmS p x=0 then ddF (some x) l else x::ddF (some x) l
theorem xJ:∀(l:List Scan) (p:Scan),(p::l).Pairwise (fun a b=>cmS a b≤0)→(od (ddF (some p) l)∧(∀x∈ddF (some p) l,cmS p x<0))∧∀x,(x=p∨x∈ddF (some p) l)↔(x=p∨x∈l)
 |[],p,_=>⟨⟨List.Pairwise.nil,by simp[ddF]⟩,by simp[ddF]⟩
 |y::l,p,h=>by
  obtain⟨h1,h2⟩:=List.pairwise_cons.1 h
  obtain⟨⟨i1,i2⟩,i3⟩:=xJ l y h2
  rw[ddF]
  by_cases e:cmS p y=0
  ·have:=lR e
   subst this
   rw[if_pos e]
   refine⟨⟨i1,i2⟩,fun x=>?_⟩
   rw[i3 x,List.mem_cons]
   constructor
   ·rintro(h|h)
    ·exact .inl h
    ·exact .inr (.inr h)
   ·rintro(h|h|h)
    ·exact .inl h
    ·exact .inl h
    ·exact .inr h
  ·rw[if_neg e]
   have hp:cmS p y<0:=by have:=h1 y (by simp);omega
   refine⟨⟨List.pairwise_cons.2 ⟨i2,i1⟩,fun x hx=>?_⟩,fun x=>?_⟩
   ·rcases List.mem_cons.1 hx with rfl|hx
    ·exact hp
    ·exact kK hp (i2 x hx)
   ·rw[List.mem_cons,List.mem_cons,i3 x]
theorem xq {l:List Scan} (h:l.Pairwise fun a b=>cmS a b≤0):od (ddF none l)∧∀x,x∈ddF none l↔x∈l:=by
 cases l with
 |nil=>exact⟨List.Pairwise.nil,by simp[ddF]⟩
 |cons y l=>
  obtain⟨⟨i1,i2⟩,i3⟩:=xJ l y h
  rw[ddF]
  refine⟨List.pairwise_cons.2 ⟨i2,i1⟩,fun x=>?_⟩
  rw[List.mem_cons,List.mem_cons,i3 x]
theorem u9:∀(p:Option Scan) (l:List Scan),(ddF p l).length≤l.length
 |_,[]=>by cases ‹Option Scan› <;>exact Nat.le_refl _
 |none,x::l=>by have:=u9 (some x) l;simp[ddF];exact this
 |some p,x::l=>by
  have:=u9 (some x) l
  rw[ddF];split
  ·simp;omega
  ·simp;exact this
def i4 (x:Scan):List Scan→List Scan
 |[]=>[x]
 |y::l=>if cmS y x<0 then y::i4 x l else if cmS y x=0 then y::l else x::y::l
theorem qJ (x:Scan):∀(l:List Scan) (z:Scan),z∈i4 x l↔z=x∨z∈l
 |[],z=>by simp[i4]
 |y::l,z=>by
  have ih:=qJ x l z
  rw[i4]
  split
  ·rw[List.mem_cons,ih,List.mem_cons]
   constructor
   ·rintro(h|h|h)
    ·exact .inr (.inl h)
    ·exact .inl h
    ·exact .inr (.inr h)
   ·rintro(h|h|h)
    ·exact .inr (.inl h)
    ·exact .inl h
    ·exact .inr (.inr h)
  ·split
   ·have:=lR ‹cmS y x=0›
    subst this
    rw[List.mem_cons]
    constructor
    ·exact fun h=>.inr h
    ·rintro(h|h)
     ·exact .inl h
     ·exact h
   ·rw[List.mem_cons,List.mem_cons]
theorem wO (x:Scan):∀{l:List Scan},od l→od (i4 x l)
 |[],_=>List.pairwise_singleton _ _
 |y::l,h=>by
  obtain⟨h1,h2⟩:=List.pairwise_cons.1 h
  rw[i4]
  split
  ·rename_i c
   refine List.pairwise_cons.2 ⟨fun z hz=>?_,wO x h2⟩
   rcases(qJ x l z).1 hz with rfl|hz
   ·exact c
   ·exact h1 z hz
  ·split
   ·exact h
   ·have:=gT.anti x y
    have hx:cmS x y<0:=by omega
    refine List.pairwise_cons.2 ⟨fun z hz=>?_,h⟩
    rcases List.mem_cons.1 hz with rfl|hz
    ·exact hx
    ·exact kK hx (h1 z hz)
theorem vJ (x:Scan):∀l:List Scan,(i4 x l).length≤l.length+1
 |[]=>by simp[i4]
 |y::l=>by
  have:=vJ x l
  rw[i4];split
  ·simp;omega
  ·split<;>simp
def CY (l:List Scan):List Scan:=l.foldl (fun o x=>i4 x o) []
theorem ta:∀(l o:List Scan),od o→od (l.foldl (fun o x=>i4 x o) o)∧∀z,z∈l.foldl (fun o x=>i4 x o) o↔z∈o∨z∈l
 |[],o,h=>⟨h,by simp⟩
 |x::l,o,h=>by
  obtain⟨h1,h2⟩:=ta l (i4 x o) (wO x h)
  refine⟨h1,fun z=>?_⟩
  rw[List.foldl_cons,h2,qJ,List.mem_cons]
  constructor
  ·rintro((h|h)|h)
   ·exact .inr (.inl h)
   ·exact .inl h
   ·exact .inr (.inr h)
  ·rintro(h|h|h)
   ·exact .inl (.inr h)
   ·exact .inl (.inl h)
   ·exact .inr h
def yC (l:List Scan):List Scan:=ddF none (l.mergeSort leS)
theorem xw (l:List Scan):(l.mergeSort leS).Pairwise fun a b=>cmS a b≤0:=
 List.Pairwise.imp (fun{a b} h=>(oo a b).1 h) (List.pairwise_mergeSort CK DB l)
theorem wj (l:List Scan):od (yC l):=(xq (xw l)).1
theorem xC (l:List Scan) (x:Scan):x∈yC l↔x∈l:=by
 rw[yC,(xq (xw l)).2 x,List.mem_mergeSort]
theorem DJ (l:List Scan):(yC l).length≤l.length:=by
 have:=u9 none (l.mergeSort leS)
 rw[List.length_mergeSort] at this
 exact this
theorem Av (l:List Scan):CY l=yC l:=by
 obtain⟨h1,h2⟩:=ta l [] List.Pairwise.nil
 refine oF h1 (wj l) fun x=>?_
 unfold CY
 rw[h2 x,xC];simp
set_option maxRecDepth 100000
def ir92:J:=js [jm 5 kf] [0,1,2] (.seq (.reg (some [[],[],[0,1],[0,1,2],[],[],[4,5],[4,5,6],[0,1,2,3,4,5,6,7],[0,1,2,3,4,5,6,7,8],[0,1,2,3,4,5,6,7,8,9]]) [jk 6 2,jm 7 0,ja 8 6 6 7,jl 9 6 8,jk 10 2,jm 11 1,ja 12 6 10 11,jl 13 6 12,jc 14 37 [9,13],jb 15 .lss .i 14 (ki 0),jm 5 15] [5]) .ret)
def rv92:List RV:=[.t 5]
open Go.Proofs Go.IntWalk
set_option linter.unusedVariables false
set_option maxHeartbeats 4000000
def jU (g:G) (t:TE) (a0:Int) (a1:Int) (a2:List Scan):Option Bool:=
 gd (((0:Int)≤a0))<|
 gt a2 (g.nat a0) fun x1=>
 gd (((0:Int)≤a1))<|
 gt a2 (g.nat a1) fun x2=>
 lP (bg g t (Scan.mk x1.Thing x1.At x1.Kind x1.Place (Trip.mk x1.Trip.Leg x1.Trip.Day)) (Scan.mk x2.Thing x2.At x2.Kind x2.Place (Trip.mk x2.Trip.Leg x2.Trip.Day))) fun x3=>
 some (g.lt x3 0)
theorem ql {g:G} {t:TE} {a0:Int} {a1:Int} {a2:List Scan} {r:Bool} (hg:g=G.real) (ht:t=TE.real) (h:jU g t a0 a1 a2=some r):Fn Tryz.prog 92 [.c (.v (.int .i64 a0)),.c (.v (.int .i64 a1)),.q [.s 6 (t.r_Scan a2)]] (.c (.r (.v (.bool r)))):=by
 obtain⟨X,hX⟩:=aC (.c (.r (.v (.bool r))):X);rw[←hX];refine aA (rvs:=rv92) (j:=ir92) Tryz.func92 rfl (by kernel_rfl) (nb rfl) (by kernel_rfl) af ?_;intro g2 F hg2 hF;obtain rfl:g2=g:=hg2.unique.trans hg.symm;clear hg2;obtain⟨_⟩:=g2;obtain⟨_⟩:=t
 unfold jU at h;try dsimp only at h
 cbv;obtain⟨hc1,h⟩:=ak h;refine AStep.mk hc1 ?_;cbv;obtain⟨x1,hx1,h⟩:=aE h;obtain⟨x1_Thing,x1_At,x1_Kind,x1_Place,⟨x1_Trip_Leg,x1_Trip_Day⟩⟩:=x1;try dsimp only at h
 refine AGet.mk _ (eB hg ht hx1) ?_;cbv;obtain⟨hc2,h⟩:=ak h;refine AStep.mk hc2 ?_;cbv;obtain⟨x2,hx2,h⟩:=aE h;obtain⟨x2_Thing,x2_At,x2_Kind,x2_Place,⟨x2_Trip_Leg,x2_Trip_Day⟩⟩:=x2;try dsimp only at h
 refine AGet.mk _ (eB hg ht hx2) ?_;cbv;obtain⟨x3,hx3,h⟩:=ah h;try dsimp only at h
 refine ACall.mk _ _ rfl (hF _ _ _ (g0 hg ht hx3)) (.inl rfl) (nb rfl) ?_;cbv;obtain rfl:=Option.some.inj h;exact ARet.mk trivial hX.symm
end Go.Vs
namespace Go.Proofs
open Go.Shelf Go.RowKit Go.Lib Go.Sort
set_option maxHeartbeats 2000000
set_option maxRecDepth 100000
def Tryz.lays8_ren : Go.Shelf.Ren := ⟨fun | 8 => 79 | 13 => 132 | 14 => 133 | 16 => 135 | 15 => 134 | 29 => 170 | 30 => 171 | 42 => 179 | 49 => 183 | n => n, fun | 20 => 20 | 26 => 108 | 36 => 146 | 0 => 0 | 38 => 148 | 42 => 152 | 3 => 3 | 4 => 4 | 47 => 170 | 17 => 17 | 33 => 143 | 34 => 144 | 89 => 210 | 12 => 12 | 56 => 185 | 82 => 203 | 5 => 5 | 83 => 204 | 84 => 205 | 85 => 206 | 86 => 207 | 87 => 208 | n => n, fun | n => n⟩
theorem Tryz.lays8 : Go.Proofs.LaysGt.n8 Tryz.prog Tryz.lays8_ren := {
  mixed := by kernel_rfl
  f8 := Tryz.func79.trans (congrArg some (by kernel_rfl))
  f13 := Tryz.func132.trans (congrArg some (by kernel_rfl))
  f14 := Tryz.func133.trans (congrArg some (by kernel_rfl))
  f15 := Tryz.func134.trans (congrArg some (by kernel_rfl))
  f16 := Tryz.func135.trans (congrArg some (by kernel_rfl))
  f29 := Tryz.func170.trans (congrArg some (by kernel_rfl))
  f30 := Tryz.func171.trans (congrArg some (by kernel_rfl))
  f42 := Tryz.func179.trans (congrArg some (by kernel_rfl))
  f49 := Tryz.func183.trans (congrArg some (by kernel_rfl))
  t0 := Tryz.underlying0
  a0 := Tryz.isAgg0
  z0 := Tryz.sizeOf0
  v0 := Tryz.zeroValue0
  i0 := by kernel_rfl
  t3 := Tryz.underlying3
  a3 := Tryz.isAgg3
  z3 := Tryz.sizeOf3
  v3 := Tryz.zeroValue3
  i3 := by kernel_rfl
  t4 := Tryz.underlying4
  a4 := Tryz.isAgg4
  z4 := Tryz.sizeOf4
  v4 := Tryz.zeroValue4
  i4 := by kernel_rfl
  t5 := Tryz.underlying5
  a5 := Tryz.isAgg5
  z5 := Tryz.sizeOf5
  v5 := Tryz.zeroValue5
  i5 := by kernel_rfl
  t12 := Tryz.underlying12
  a12 := Tryz.isAgg12
  z12 := Tryz.sizeOf12
  v12 := Tryz.zeroValue12
  i12 := by kernel_rfl
  t17 := Tryz.underlying17
  a17 := Tryz.isAgg17
  z17 := Tryz.sizeOf17
  v17 := Tryz.zeroValue17
  i17 := by kernel_rfl
  t20 := Tryz.underlying20
  a20 := Tryz.isAgg20
  z20 := Tryz.sizeOf20
  v20 := Tryz.zeroValue20
  i20 := by kernel_rfl
  t26 := Tryz.underlying108
  a26 := Tryz.isAgg108
  z26 := Tryz.sizeOf108
  v26 := Tryz.zeroValue108
  i26 := by kernel_rfl
  t33 := Tryz.underlying143
  a33 := Tryz.isAgg143
  z33 := Tryz.sizeOf143
  v33 := Tryz.zeroValue143
  i33 := by kernel_rfl
  t34 := Tryz.underlying144
  a34 := Tryz.isAgg144
  z34 := Tryz.sizeOf144
  v34 := Tryz.zeroValue144
  i34 := by kernel_rfl
  t36 := Tryz.underlying146
  a36 := Tryz.isAgg146
  z36 := Tryz.sizeOf146
  v36 := Tryz.zeroValue146
  i36 := by kernel_rfl
  t38 := Tryz.underlying148
  a38 := Tryz.isAgg148
  z38 := Tryz.sizeOf148
  v38 := Tryz.zeroValue148
  i38 := by kernel_rfl
  t42 := Tryz.underlying152
  a42 := Tryz.isAgg152
  z42 := Tryz.sizeOf152
  v42 := Tryz.zeroValue152
  i42 := by kernel_rfl
  t47 := Tryz.underlying170
  a47 := Tryz.isAgg170
  z47 := Tryz.sizeOf170
  v47 := Tryz.zeroValue170
  i47 := by kernel_rfl
  t56 := Tryz.underlying185
  a56 := Tryz.isAgg185
  z56 := Tryz.sizeOf185
  v56 := Tryz.zeroValue185
  i56 := by kernel_rfl
  t82 := Tryz.underlying203
  a82 := Tryz.isAgg203
  z82 := Tryz.sizeOf203
  v82 := Tryz.zeroValue203
  i82 := by kernel_rfl
  t83 := Tryz.underlying204
  a83 := Tryz.isAgg204
  z83 := Tryz.sizeOf204
  v83 := Tryz.zeroValue204
  i83 := by kernel_rfl
  t84 := Tryz.underlying205
  a84 := Tryz.isAgg205
  z84 := Tryz.sizeOf205
  v84 := Tryz.zeroValue205
  i84 := by kernel_rfl
  t85 := Tryz.underlying206
  a85 := Tryz.isAgg206
  z85 := Tryz.sizeOf206
  v85 := Tryz.zeroValue206
  i85 := by kernel_rfl
  t86 := Tryz.underlying207
  a86 := Tryz.isAgg207
  z86 := Tryz.sizeOf207
  v86 := Tryz.zeroValue207
  i86 := by kernel_rfl
  t87 := Tryz.underlying208
  a87 := Tryz.isAgg208
  z87 := Tryz.sizeOf208
  v87 := Tryz.zeroValue208
  i87 := by kernel_rfl
  t89 := Tryz.underlying210
  a89 := Tryz.isAgg210
  z89 := Tryz.sizeOf210
  v89 := Tryz.zeroValue210
  i89 := by kernel_rfl }
noncomputable def Tryz.ssT:TypeInfo:=(Tryz.prog.info? 33).get (by kernel_rfl)
noncomputable def Tryz.ssE:TypeInfo:=(Tryz.prog.info? 59).get (by kernel_rfl)
theorem Tryz.ssN:Tryz.lays8_ren.f 8=79:=by kernel_rfl
theorem Tryz.ss1:Tryz.prog.info? 33=some Tryz.ssT:=by kernel_rfl
theorem Tryz.ss2:Tryz.ssT.desc=.slice 59:=by kernel_rfl
theorem Tryz.ss3:Tryz.prog.packed 33=false:=by kernel_rfl
theorem Tryz.ss4:Tryz.prog.info? 59=some Tryz.ssE:=by kernel_rfl
theorem Tryz.ss5:∀w,(Extern.Rtype.kind 59).run Tryz.prog w=.ok 25 w:=fun _=>by kernel_rfl
theorem Tryz.ss6:Tryz.ssE.size=6:=by kernel_rfl
theorem Tryz.ss7:∀w,(isAgg 59).run Tryz.prog w=.ok true w:=fun _=>by kernel_rfl
theorem Tryz.ss8:∀args w,(callFunc 92 args).run Tryz.prog w=.ok (.enter 92 args) w:=enters_of Tryz.func92 (by kernel_rfl) rfl
theorem Tryz.ss9 (n:Nat) (h2:2≤n):Lib.swapperK n Tryz.ssE 25=9:=by
 have a:Tryz.ssE.hasPointers=true:=by kernel_rfl
 have b:Tryz.ssE.bytes=56:=by kernel_rfl
 have c:(n==0)=false:=by simp;omega
 have d:(n==1)=false:=by simp;omega
 simp[Lib.swapperK,a,b,c,d]
theorem Tryz.ss10:∀args W,(callFunc 169 args).run Tryz.prog W=((Extern.ReflectliteSwapper.swap false args).run Tryz.prog W).andThen fun v w'=>.ok (.value v) w':=
 fun args W=>run_callFunc_extern Tryz.func169 (by kernel_rfl) (by kernel_rfl) (by kernel_rfl) (e:=Extern.ReflectliteSwapper.swap false) (by kernel_rfl) args W
theorem Tryz.ss11 (n:Nat) (h2:2≤n):Tryz.prog.funcs.findIdx? (·.name== "internal/reflectlite" ++ ".Swapper$" ++toString (swapperK n Tryz.ssE 25))=some 169:=by rw[Tryz.ss9 n h2];kernel_rfl
theorem Tryz.ss12 (n:Nat) (h:n≤1):∃f,Tryz.prog.funcs.findIdx? (·.name== "internal/reflectlite" ++ ".Swapper$" ++toString (swapperK n Tryz.ssE 25))=some f:=by
 rcases Nat.le_one_iff_eq_zero_or_eq_one.1 h with rfl|rfl
 ·exact⟨161,by rw[show swapperK 0 Tryz.ssE 25=1 from rfl];kernel_rfl⟩
 ·exact⟨162,by rw[show swapperK 1 Tryz.ssE 25=2 from rfl];kernel_rfl⟩
end Go.Proofs
namespace Go.Vs
open Go Go.Proofs Go.IntWalk
set_option linter.unusedVariables false
def nT (x:Scan):List Value:=[.int .i64 x.Thing,.int .i64 x.At,.int .i64 x.Kind,.string x.Place,.int .i64 x.Trip.Leg,.int .i64 x.Trip.Day]
def ssI:Option Value→Int
 |some (.int _ n)=>n
 |_=>0
def ssS:Option Value→ByteArray
 |some (.string s)=>s
 |_=>.empty
def jG (l:List Value):Scan:=⟨ssI l[0]?,ssI l[1]?,ssI l[2]?,ssS l[3]?,⟨ssI l[4]?,ssI l[5]?⟩⟩
theorem tq (x:Scan):jG (nT x)=x:=rfl
def yx (x y:List Value):Bool:=decide (cmS (jG x) (jG y)<0)
theorem EZ:Swo yx :={
 asym x y h:=by
  have:=gT.anti (jG x) (jG y)
  simp only[yx,decide_eq_true_eq,decide_eq_false_iff_not] at h ⊢;omega
 trans x y z h1 h2:=by
  have a:=gT.tr (jG x) (jG y) (jG z)
  have b:=gT.anti (jG x) (jG y)
  have c:=gT.anti (jG y) (jG z)
  have d:=gT.anti (jG x) (jG z)
  simp only[yx,decide_eq_false_iff_not] at h1 h2 ⊢;omega }
theorem Af (l:List Scan):TE.real.d_Scan l=(l.map nT).map n6:=by
 rw[List.map_map];rfl
theorem D2 (l:List Scan):TE.real.r_Scan l=(l.map nT).map s7:=by
 rw[List.map_map];rfl
theorem Fj (l:List Scan) (i j:Nat) (x y:List Value) (h1:(l.map nT)[i]?=some x) (h2:(l.map nT)[j]?=some y):Fn Tryz.prog 92 [.c (.v (.int .i64 i)),.c (.v (.int .i64 j)),.q [.s 6 ((l.map nT).map s7)]] (.c (.r (.v (.bool (yx x y))))):=by
 rw[List.getElem?_map] at h1 h2
 obtain⟨a,a1,rfl⟩:=Option.map_eq_some_iff.1 h1
 obtain⟨b,b1,rfl⟩:=Option.map_eq_some_iff.1 h2
 rw[←D2]
 refine ql rfl rfl ?_
 have ai:i<l.length:=(List.getElem?_eq_some_iff.1 a1).1
 have bi:j<l.length:=(List.getElem?_eq_some_iff.1 b1).1
 unfold jU
 simp only[bp,Int.toNat_natCast,dR,a9,FN]
 rw[aj (by omega),aq a1,aj (by omega),aq b1]
 rfl
def nO (g:G) (t:TE) (a0:List Scan):Option (List Scan):=gd (a0.length<1152921504606846976)<|some (a0.mergeSort leS)
theorem vu {g:G} {t:TE} {a0 r:List Scan} (h:nO g t a0=some r):r.length=a0.length:=by
 obtain⟨_,h⟩:=ak h
 cases h
 exact List.length_mergeSort _
theorem y5 {g:G} {t:TE} {a0 r:List Scan} (hg:g=G.real) (ht:t=TE.real) (h:nO g t a0=some r):Ch Tryz.prog 79 33 92 6 (t.d_Scan a0) (t.d_Scan r):=by
 obtain⟨hl,h⟩:=ak h;cases h
 subst ht;rw[Af,Af]
 have h:=HC (enc:=nT) (lt:=yx) Tryz.lays8 33 59 Tryz.ssT Tryz.ssE Tryz.ss1 Tryz.ss2 Tryz.ss3 Tryz.ss4 25 Tryz.ss5 6 (by decide) Tryz.ss6 Tryz.ss7 EZ 92 Tryz.ss8 169 Tryz.ss11 Tryz.ss12 false Tryz.ss10
  (fun a=>⟨rfl,fun v hv=>by simp only[nT,List.mem_cons,List.not_mem_nil,or_false] at hv;rcases hv with rfl|rfl|rfl|rfl|rfl|rfl<;>rfl⟩) Fj a0 (a0.mergeSort leS) hl (List.length_mergeSort _)
  (vS (enc:=nT) (lt:=yx) (le:=leS) (d0:=[]) (fun a b=>by unfold yx leS;rw[tq,tq,Bool.not_not]) CK DB E0 a0)
 rw[Tryz.ssN] at h;exact h
set_option maxRecDepth 100000
def ir87:J:=js [jm 6 kf] [0,1,2] (js [jm 7 1,jm 8 0,jb 9 .leq .i 7 8,jm 10 9,ju 11 10 (.mv 0),ju 12 10 (.mv 2),ju 13 10 (.bin .leq .i 11 12),jq 14 (.pick 10 13 kf),jm 6 14] [6] .ret)
def rv87:List RV:=[.t 6]
open Go.Proofs Go.IntWalk
set_option maxHeartbeats 4000000
def dW (g:G) (t:TE) (a0:Int) (a1:Int) (a2:Int):Bool:=
 br (g.le a1 a0)
 (
  (g.le a0 a2))
 (
  false)
theorem ez {g:G} {t:TE} {a0:Int} {a1:Int} {a2:Int} {r:Bool} (hg:g=G.real) (ht:t=TE.real) (h:dW g t a0 a1 a2=r):Fn Tryz.prog 87 [.c (.v (.int .i64 a0)),.c (.v (.int .i64 a1)),.c (.v (.int .i64 a2))] (.c (.r (.v (.bool r)))):=by
 obtain⟨X,hX⟩:=aC (.c (.r (.v (.bool r))):X);rw[←hX];refine aA (rvs:=rv87) (j:=ir87) Tryz.func87 rfl (by kernel_rfl) (nb rfl) (by kernel_rfl) af ?_;intro g2 F hg2 hF;obtain rfl:g2=g:=hg2.unique.trans hg.symm;clear hg2;obtain⟨_,_,le⟩:=g2;obtain⟨_⟩:=t
 unfold dW at h;try dsimp only at h
 cbv
 cases hb1:(le a1 a0)
 rotate_left
 ·rw[ab hb1] at h;cbv;iterate 3 try(rw[hb1];cbv)
  subst h;exact ARet.mk trivial hX.symm
 rw[aa hb1] at h;cbv;iterate 3 try(rw[hb1];cbv)
 subst h;exact ARet.mk trivial hX.symm
def HM:J:=js [jm 2 kf] [0] (.seq (js [jm 3 (ki 0)] [0,3] (.bl 0 (.seq (js [jm 4 3,jm 5 0,jq 6 (.len true 5),jb 7 .lss .i 4 6] [0,3,7] (.cond 7 .skip (.exit 0))) (.seq (.block 1 (js [jm 10 0,jm 11 3,jq 12 (.idx 10 11),jq 13 (.bin .lss .i 12 (.k (.c (.r (.v (.int .u8 65)))))),jm 14 13,jv 15 14 (.mv 0),jv 16 14 (.mv 3),jv 17 14 (.idx 15 16),jv 18 14 (.bin .gtr .i 17 (.k (.c (.r (.v (.int .u8 90)))))),jq 19 (.pick 14 kt 18)] [0,3,19] (.cond 19 (js [jm 2 kf] [2] .ret) .skip))) (.reg none [jm 8 3,jb 9 .add .i 8 (ki 1),jm 3 9] [0,3]))))) (js [jm 20 0,jq 21 (.len true 20),jb 22 .eql .i 21 (ki 3),jm 2 22] [2] .ret))
def Ih:List RV:=[.t 2]
def dt (g:G) (t:TE) (a0:ByteArray):Nat→Int→LR Bool Unit
 |0,v1=>
  (LR.out ())
 |n1+1,v1=>
  br (g.lt (g.byte a0 v1) 65)
  (
   (LR.ret false))
  (
   br (g.lt 90 (g.byte a0 v1))
   (
    (LR.ret false))
   (
    dt g t a0 n1 (g.wrap .i64 (g.add v1 1))))
def iO (g:G) (t:TE) (a0:ByteArray):Option Bool:=
 gd (((g.int (g.slen a0))≤9223372036854775807))<|
 lP (dt g t a0 (ap 0 (g.int (g.slen a0))) 0) fun o1=>lr o1 fun y1=>
 some (g.eq (g.int (g.slen a0)) 3)
theorem qb {g:G} {t:TE} {a0:ByteArray} {r:Bool} (hg:g=G.real) (ht:t=TE.real) (h:iO g t a0=some r):Fn Tryz.prog 148 [.c (.v (.string a0))] (.c (.r (.v (.bool r)))):=by
 obtain⟨X,hX⟩:=aC (.c (.r (.v (.bool r))):X);rw[←hX];refine aA (rvs:=Ih) (j:=HM) Tryz.func148 rfl (by kernel_rfl) (nb rfl) (by kernel_rfl) af ?_;intro g2 F hg2 hF;obtain rfl:g2=g:=hg2.unique.trans hg.symm;clear hg2;obtain⟨wrap,lt,_,_,_,_,_,_,_,_,_,_,int,add,_,_,_,_,_,_,byte,_,_,_,_,_,_,_,_,_,_,_,_,_,_,slen⟩:=g2;obtain⟨_⟩:=t
 unfold iO at h;try dsimp only at h
 cbv;obtain⟨hB1,h⟩:=ak h;obtain⟨o1,ho1,h⟩:=ah h;try dsimp only at h
 try rw[hg] at ho1
 try rw[ht] at ho1
 refine ABL.mk {p:Nat×Int//p.1=ap p.2 (int (slen a0))∧0≤p.2∧dt G.real TE.real a0 p.1 p.2=o1} (fun⟨⟨n1,v1⟩,_⟩=>({sl:=[(0,.c (.r (.v (.string a0)))),(3,.c (.r (.v (.int .i64 v1))))],tab:=[]}:St)) 0 (fun p=>p.1.1) ⟨(ap 0 (int (slen a0)),0),rfl,Int.le_refl _,ho1⟩ (Unit) (fun _=>({sl:=[(0,.c (.r (.v (.string a0))))],tab:=[]}:St)) 0 (fun y=>o1=LR.out y) ?_ ?_ ?_
 ·refine Wk.of [] rfl rfl ?_ ?_
  ·cbv;all_goals exact⟨⟨_,rfl,rfl⟩,⟨_,rfl,rfl⟩,trivial⟩
  cbv;all_goals exact trivial
 ·rintro⟨⟨n1,v1⟩,hn1,hi1,h_1⟩ hq1;try dsimp only at hn1 hi1 h_1
  clear hq1;cbv;rcases n1 with _|n1
  ·have hb1:lt v1 (int (slen a0))=false:=ba hg hn1;rw[dt] at h_1;try rw[←hg] at h_1
   try rw[←ht] at h_1
   try dsimp only at h_1
   rw[hb1];cbv;refine⟨(),Wk.of [] rfl rfl ?_ ?_,h_1.symm⟩
   ·cbv;all_goals exact⟨⟨_,rfl,rfl⟩,trivial⟩
   cbv;all_goals exact trivial
  have hb1:lt v1 (int (slen a0))=true:=bt hg hn1;have hl1:=cR hn1;have hs1:=bS hg hn1 hi1 hB1 (by decide);rw[dt] at h_1;try rw[←hg] at h_1
  try rw[←ht] at h_1
  try dsimp only at h_1
  rw[hb1];cbv;refine AStep.mk (zF hg hi1 hl1) ?_;cbv
  cases hb2:(lt (byte a0 v1) 65)
  rotate_left
  ·rw[ab hb2] at h_1;cbv;iterate 4 try(rw[hb2];cbv)
   subst h_1;try dsimp only[lr,lrL,lrp,aZ] at h
   obtain rfl:=Option.some.inj h;exact ARet.mk trivial hX.symm
  rw[aa hb2] at h_1;cbv;iterate 2 try(rw[hb2];cbv)
  refine AStep.mk (zF hg hi1 hl1) ?_;cbv;iterate 2 try(rw[hb2];cbv)
  cases hb3:(lt 90 (byte a0 v1))
  rotate_left
  ·rw[ab hb3] at h_1;cbv;subst h_1;try dsimp only[lr,lrL,lrp,aZ] at h
   obtain rfl:=Option.some.inj h;exact ARet.mk trivial hX.symm
  rw[aa hb3] at h_1;cbv;try rw[hg] at h_1
  try rw[ht] at h_1
  refine⟨⟨(n1,(wrap .i64 (add v1 1))),hs1.1,hs1.2,h_1⟩,Wk.of [] rfl rfl ?_ ?_,Nat.lt_succ_self _⟩
  ·cbv;all_goals exact⟨⟨_,rfl,rfl⟩,⟨_,rfl,rfl⟩,trivial⟩
  cbv;all_goals exact trivial
 rintro _ hy1;replace hy1:=hy1.symm;subst hy1;try dsimp only[lr,lrL,lrp,aZ] at h
 cbv;obtain rfl:=Option.some.inj h;exact ARet.mk trivial hX.symm
def GL:J:=js [jq 1 (.box 0),jm 2 kf] [1] (js [jf 3 0 1,jk 4 3,jc 5 148 [4],jm 6 5,ju 7 6 (.fa 1 1),ju 8 6 (.ld false 1 7),ju 9 6 (.call 148 true [8]),jq 10 (.pick 6 9 kf),jm 11 10,ju 12 11 (.fa 0 1),ju 13 11 (.ld false 1 12),ju 14 11 (.fa 1 1),ju 15 11 (.ld false 1 14),ju 16 11 (.bin .neq .s 13 15),jq 17 (.pick 11 16 kf),jm 18 17,ju 19 18 (.fa 2 1),ju 20 18 (.ld false 1 19),ju 21 18 (.call 87 true [20,(ki 0),(ki 1439)]),jq 22 (.pick 18 21 kf),jm 23 22,ju 24 23 (.fa 3 1),ju 25 23 (.ld false 1 24),ju 26 23 (.call 87 true [25,(ki 1),(ki 4320)]),jq 27 (.pick 23 26 kf),jm 28 27,ju 29 28 (.fa 4 1),ju 30 28 (.ld false 1 29),ju 31 28 (.call 87 true [30,(ki 1),(ki 127)]),jq 32 (.pick 28 31 kf),jm 33 32,ju 34 33 (.fa 5 1),ju 35 33 (.ld false 1 34),ju 36 33 (.call 87 true [35,(ki 0),(ki 1000000)]),jq 37 (.pick 33 36 kf),jm 2 37] [2] .ret)
def Gb:List RV:=[.t 2]
def ny (g:G) (t:TE) (a0:Leg):Option Bool:=
 cl (iO g t a0.From) fun x1=>
 br x1
 (
  cl (iO g t a0.To) fun x2=>
  br x2
  (
   br (g.seq a0.From a0.To)
   (
    some false)
   (
    lP (dW g t a0.Start 0 1439) fun x3=>
    br x3
    (
     lP (dW g t a0.Takes 1 4320) fun x4=>
     br x4
     (
      lP (dW g t a0.Days 1 127) fun x5=>
      br x5
      (
       lP (dW g t a0.Room 0 1000000) fun x6=>
       some x6)
      (
       some false))
     (
      some false))
    (
     some false)))
  (
   some false))
 (
  some false)
theorem AV {g:G} {t:TE} {a0:Leg} {r:Bool} (hg:g=G.real) (ht:t=TE.real) (h:ny g t a0=some r):Fn Tryz.prog 108 [.g (Leg.rs t a0)] (.c (.r (.v (.bool r)))):=by
 obtain⟨X,hX⟩:=aC (.c (.r (.v (.bool r))):X);rw[←hX];refine aA (rvs:=Gb) (j:=GL) Tryz.func108 rfl (by kernel_rfl) (nb rfl) (by kernel_rfl) af ?_;intro g2 F hg2 hF;obtain rfl:g2=g:=hg2.unique.trans hg.symm;clear hg2;obtain⟨_,_,_,_,_,_,_,_,_,_,_,_,_,_,_,_,_,seq⟩:=g2;obtain⟨_⟩:=t
 obtain⟨a0_From,a0_To,a0_Start,a0_Takes,a0_Days,a0_Room⟩:=a0;unfold ny at h;try dsimp only at h
 cbv;obtain⟨x1,hx1,h⟩:=ae h;try dsimp only at h
 refine ACall.mk _ _ rfl (hF _ _ _ (qb hg ht hx1)) (.inl rfl) (nb rfl) ?_;cbv
 cases hb1:x1
 ·rw[aa hb1] at h;cbv;iterate 3 try(rw[hb1];cbv)
  obtain rfl:=Option.some.inj h;exact ARet.mk trivial hX.symm
 rw[ab hb1] at h;cbv;iterate 2 try(rw[hb1];cbv)
 obtain⟨x2,hx2,h⟩:=ae h;try dsimp only at h
 refine ACall.mk _ _ rfl (hF _ _ _ (qb hg ht hx2)) (.inl rfl) (nb rfl) ?_;cbv;try(rw[hb1];cbv)
 cases hb2:x2
 ·rw[aa hb2] at h;cbv;iterate 5 try(rw[hb2];cbv)
  obtain rfl:=Option.some.inj h;exact ARet.mk trivial hX.symm
 rw[ab hb2] at h;cbv;iterate 5 try(rw[hb2];cbv)
 cases hb3:(seq a0_From a0_To)
 rotate_left
 ·rw[ab hb3] at h;cbv;iterate 3 try(rw[hb3];cbv)
  obtain rfl:=Option.some.inj h;exact ARet.mk trivial hX.symm
 rw[aa hb3] at h;cbv;iterate 2 try(rw[hb3];cbv)
 obtain⟨x3,hx3,h⟩:=ah h;try dsimp only at h
 refine ACall.mk _ _ rfl (hF _ _ _ (ez hg ht hx3)) (.inl rfl) (nb rfl) ?_;cbv;try(rw[hb3];cbv)
 cases hb4:x3
 ·rw[aa hb4] at h;cbv;iterate 3 try(rw[hb4];cbv)
  obtain rfl:=Option.some.inj h;exact ARet.mk trivial hX.symm
 rw[ab hb4] at h;cbv;iterate 2 try(rw[hb4];cbv)
 obtain⟨x4,hx4,h⟩:=ah h;try dsimp only at h
 refine ACall.mk _ _ rfl (hF _ _ _ (ez hg ht hx4)) (.inl rfl) (nb rfl) ?_;cbv;try(rw[hb4];cbv)
 cases hb5:x4
 ·rw[aa hb5] at h;cbv;iterate 3 try(rw[hb5];cbv)
  obtain rfl:=Option.some.inj h;exact ARet.mk trivial hX.symm
 rw[ab hb5] at h;cbv;iterate 2 try(rw[hb5];cbv)
 obtain⟨x5,hx5,h⟩:=ah h;try dsimp only at h
 refine ACall.mk _ _ rfl (hF _ _ _ (ez hg ht hx5)) (.inl rfl) (nb rfl) ?_;cbv;try(rw[hb5];cbv)
 cases hb6:x5
 ·rw[aa hb6] at h;cbv;iterate 3 try(rw[hb6];cbv)
  obtain rfl:=Option.some.inj h;exact ARet.mk trivial hX.symm
 rw[ab hb6] at h;cbv;iterate 2 try(rw[hb6];cbv)
 obtain⟨x6,hx6,h⟩:=ah h;try dsimp only at h
 refine ACall.mk _ _ rfl (hF _ _ _ (ez hg ht hx6)) (.inl rfl) (nb rfl) ?_;cbv;try(rw[hb6];cbv)
 obtain rfl:=Option.some.inj h;exact ARet.mk trivial hX.symm
def ir54:J:=js [jq 1 (.box 0),jm 2 kf] [1] (.seq (js [jf 7 0 1,jk 8 7,jq 9 (.len false 8),jm 10 (ki 0)] [1,8,9,10] (.bl 0 (js [jb 11 .lss .i 10 9] [1,8,9,10,11] (.seq (.cond 11 .skip (.exit 0)) (.seq (.block 1 (js [ja 12 6 8 10,jl 13 6 12,jq 4 (.alloc [.r (.v (.string .empty)),.r (.v (.string .empty)),.r (.v (.int .i64 0)),.r (.v (.int .i64 0)),.r (.v (.int .i64 0)),.r (.v (.int .i64 0))]),jp (.st 6 4 13)] [1,4,8,9,10] (js [jl 14 6 4,jc 15 108 [14],jq 16 (.not 15)] [1,8,9,10,16] (.cond 16 (js [jm 2 kf] [2] .ret) .skip)))) (.reg none [jb 17 .add .i 10 (ki 1),jm 10 17] [1,8,9,10])))))) (.seq (js [jf 18 1 1,jk 19 18,jq 20 (.len false 19),jm 21 (ki 0)] [1,19,20,21] (.bl 2 (js [jb 22 .lss .i 21 20] [1,19,20,21,22] (.seq (.cond 22 .skip (.exit 2)) (.seq (.block 3 (js [jm 23 21,ja 24 1 19 21,jk 25 24,jm 5 23,jm 6 25] [1,5,6,19,20,21] (js [jm 26 6,jc 27 87 [26,(ki 0),(ki 60)],jq 28 (.not 27),jm 29 28,jv 30 29 (.mv 5),jv 31 29 (.bin .gtr .i 30 (ki 0)),jv 32 29 (.mv 31),ju 33 32 (.fa 1 1),ju 34 32 (.ld false 1 33),ju 35 32 (.mv 5),ju 36 32 (.bin .sub .i 35 (ki 1)),ju 37 32 (.ia 1 34 36),ju 38 32 (.ld false 1 37),ju 39 32 (.mv 6),ju 40 32 (.bin .geq .i 38 39),jv 41 29 (.pick 32 40 kf),jq 42 (.pick 29 kt 41)] [1,19,20,21,42] (.cond 42 (js [jm 2 kf] [2] .ret) .skip)))) (.reg none [jb 43 .add .i 21 (ki 1),jm 21 43] [1,19,20,21])))))) (js [jf 44 0 1,jk 45 44,jq 46 (.len false 45),jb 47 .leq .i 46 (ki 20),jm 48 47,ju 49 48 (.fa 1 1),ju 50 48 (.ld false 1 49),ju 51 48 (.len false 50),ju 52 48 (.bin .leq .i 51 (ki 10)),jq 53 (.pick 48 52 kf),jm 54 53,ju 55 54 (.fa 2 1),ju 56 54 (.ld false 1 55),ju 57 54 (.call 87 true [56,(ki 0),(ki 240)]),jq 58 (.pick 54 57 kf),jm 2 58] [2] .ret)))
def rv54:List RV:=[.t 2]
def ca (g:G) (t:TE) (a0:Network):List Int→Int→Option (LR Bool Unit)
 |[],v2=>
  some (LR.out ())
 |z2::ls2,v2=>
  lP (dW g t z2 0 60) fun x2=>
  br x2
  (
   br (g.lt 0 v2)
   (
    gd (((0:Int)≤(g.wrap .i64 (g.sub v2 1))))<|
    gt a0.Off (g.nat (g.wrap .i64 (g.sub v2 1))) fun x3=>
    br (g.le z2 x3)
    (
     some (LR.ret false))
    (
     ca g t a0 ls2 (g.wrap .i64 (g.add v2 1))))
   (
    ca g t a0 ls2 (g.wrap .i64 (g.add v2 1))))
  (
   some (LR.ret false))
def cF (g:G) (t:TE):List Leg→Option (LR Bool Unit)
 |[]=>
  some (LR.out ())
 |z1::ls1=>
  cl (ny g t z1) fun x1=>
  br x1
  (
   cF g t ls1)
  (
   some (LR.ret false))
def dF (g:G) (t:TE) (a0:Network):Option Bool:=
 cl (cF g t a0.Legs) fun o1=>lr o1 fun y1=>
 cl (ca g t a0 a0.Off 0) fun o2=>lr o2 fun y2=>
 br (g.le (g.llen (t.r_Leg a0.Legs)) 20)
 (
  br (g.le (g.llen (t.r_I64 a0.Off)) 10)
  (
   lP (dW g t a0.Change 0 240) fun x4=>
   some x4)
  (
   some false))
 (
  some false)
theorem jI {g:G} {t:TE} {a0:Network} {r:Bool} (hg:g=G.real) (ht:t=TE.real) (h:dF g t a0=some r):Fn Tryz.prog 54 [.g (Network.rs t a0)] (.c (.r (.v (.bool r)))):=by
 obtain⟨X,hX⟩:=aC (.c (.r (.v (.bool r))):X);rw[←hX];refine aA (rvs:=rv54) (j:=ir54) Tryz.func54 rfl (by kernel_rfl) (nb rfl) (by kernel_rfl) af ?_;intro g2 F hg2 hF;obtain rfl:g2=g:=hg2.unique.trans hg.symm;clear hg2;obtain⟨wrap,lt,le,_,_,_,_,_,_,_,_,_,_,add,_,_,_,_,_,_,_,llen⟩:=g2;obtain⟨_,_,_,_,r_Leg,_,r_I64⟩:=t
 obtain⟨a0_Legs,a0_Off,a0_Change⟩:=a0;unfold dF at h;try dsimp only at h
 cbv;obtain⟨o1,ho1,h⟩:=ae h;try dsimp only at h
 try rw[hg] at ho1
 try rw[ht] at ho1
 refine ABL.mk {p:Nat×Int//p.1≤a0_Legs.length∧p.2=((p.1:Nat):Int)∧cF G.real TE.real (List.drop p.1 a0_Legs)=some o1} (fun⟨⟨k1,v1⟩,_⟩=>({sl:=[(1,.c (.p 0 3 0 0)),(8,.c (.r (.s 6 (r_Leg a0_Legs)))),(9,.c (.r (.v (.int .i64 (llen (r_Leg a0_Legs)))))),(10,.c (.r (.v (.int .i64 v1))))],tab:=[(0,some (.foc 3 [] [.r (.s 6 (r_Leg a0_Legs)),.r (.s 1 (r_I64 a0_Off)),.r (.v (.int .i64 a0_Change))] []))]}:St)) 1 (fun p=>a0_Legs.length-p.1.1) ⟨(0,0),Nat.zero_le _,rfl,ho1⟩ (Unit) (fun _=>({sl:=[(1,.c (.p 0 3 0 0))],tab:=[(0,some (.foc 3 [] [.r (.s 6 (r_Leg a0_Legs)),.r (.s 1 (r_I64 a0_Off)),.r (.v (.int .i64 a0_Change))] []))]}:St)) 1 (fun y=>o1=LR.out y) ?_ ?_ ?_
 ·refine Wk.of [(0,some 0)] rfl rfl ?_ ?_
  ·cbv;all_goals exact⟨⟨_,rfl,rfl⟩,⟨_,rfl,rfl⟩,⟨_,rfl,rfl⟩,⟨_,rfl,rfl⟩,trivial⟩
  cbv;all_goals exact⟨⟨_,rfl,_,rfl,rfl,rfl,rfl,trivial⟩,trivial⟩
 ·rintro⟨⟨k1,v1⟩,hk1,hi1,h_1⟩ hq1;have hm1:=(hq1.1 8 _ _ rfl);try dsimp only at hk1 hi1 h_1
  clear hq1;cbv
  by_cases hc1_:k1<a0_Legs.length
  ·have hb1:lt v1 (llen (r_Leg a0_Legs))=true:=eZ hg ht hi1 hc1_;have hs1:=iL hg ht hi1 hc1_ hm1;obtain⟨z1,hz1⟩:=aX hc1_;rw[aH hz1] at h_1;rw[cF] at h_1;obtain⟨z1_From,z1_To,z1_Start,z1_Takes,z1_Days,z1_Room⟩:=z1;try rw[←hg] at h_1
   try rw[←ht] at h_1
   try dsimp only at h_1
   rw[hb1];cbv;refine AStep.mk (fP hi1) ?_;cbv;refine AGet.mk _ (eT hg ht hi1 hz1) ?_;cbv;obtain⟨x1,hx1,h_1⟩:=ae h_1;try dsimp only at h_1
   refine ACall.mk _ _ rfl (hF _ _ _ (AV hg ht hx1)) (.inl rfl) (nb rfl) ?_;cbv
   cases hb2:x1
   ·rw[aa hb2] at h_1;cbv;obtain rfl:=Option.some.inj h_1;try dsimp only[lr,lrL,lrp,aZ] at h
    obtain rfl:=Option.some.inj h;exact ARet.mk trivial hX.symm
   rw[ab hb2] at h_1;cbv;try rw[hg] at h_1
   try rw[ht] at h_1
   refine⟨⟨(k1+1,(wrap .i64 (add v1 1))),hc1_,hs1,h_1⟩,Wk.of [(0,some 0)] rfl rfl ?_ ?_,bc hc1_⟩
   ·cbv;all_goals exact⟨⟨_,rfl,rfl⟩,⟨_,rfl,rfl⟩,⟨_,rfl,rfl⟩,⟨_,rfl,rfl⟩,trivial⟩
   cbv;all_goals exact⟨⟨_,rfl,_,rfl,rfl,rfl,rfl,trivial⟩,trivial⟩
  have hb1:lt v1 (llen (r_Leg a0_Legs))=false:=eG hg ht hi1 hc1_;rw[List.drop_of_length_le (Nat.le_of_not_lt hc1_)] at h_1;rw[cF] at h_1;try rw[←hg] at h_1
  try rw[←ht] at h_1
  try dsimp only at h_1
  rw[hb1];cbv;refine⟨(),Wk.of [(0,some 0)] rfl rfl ?_ ?_,(Option.some.inj h_1).symm⟩
  ·cbv;all_goals exact⟨⟨_,rfl,rfl⟩,trivial⟩
  cbv;all_goals exact⟨⟨_,rfl,_,rfl,rfl,rfl,rfl,trivial⟩,trivial⟩
 rintro _ hy1;replace hy1:=hy1.symm;subst hy1;try dsimp only[lr,lrL,lrp,aZ] at h
 cbv;obtain⟨o2,ho2,h⟩:=ae h;try dsimp only at h
 try rw[hg] at ho2
 try rw[ht] at ho2
 refine ABL.mk {p:Nat×Int//p.1≤a0_Off.length∧p.2=((p.1:Nat):Int)∧ca G.real TE.real (Network.mk a0_Legs a0_Off a0_Change) (List.drop p.1 a0_Off) p.2=some o2} (fun⟨⟨k2,v2⟩,_⟩=>({sl:=[(1,.c (.p 0 3 0 0)),(19,.c (.r (.s 1 (r_I64 a0_Off)))),(20,.c (.r (.v (.int .i64 (llen (r_I64 a0_Off)))))),(21,.c (.r (.v (.int .i64 v2))))],tab:=[(0,some (.foc 3 [] [.r (.s 6 (r_Leg a0_Legs)),.r (.s 1 (r_I64 a0_Off)),.r (.v (.int .i64 a0_Change))] []))]}:St)) 1 (fun p=>a0_Off.length-p.1.1) ⟨(0,0),Nat.zero_le _,rfl,ho2⟩ (Unit) (fun _=>({sl:=[(1,.c (.p 0 3 0 0))],tab:=[(0,some (.foc 3 [] [.r (.s 6 (r_Leg a0_Legs)),.r (.s 1 (r_I64 a0_Off)),.r (.v (.int .i64 a0_Change))] []))]}:St)) 1 (fun y=>o2=LR.out y) ?_ ?_ ?_
 ·refine Wk.of [(0,some 0)] rfl rfl ?_ ?_
  ·cbv;all_goals exact⟨⟨_,rfl,rfl⟩,⟨_,rfl,rfl⟩,⟨_,rfl,rfl⟩,⟨_,rfl,rfl⟩,trivial⟩
  cbv;all_goals exact⟨⟨_,rfl,_,rfl,rfl,rfl,rfl,trivial⟩,trivial⟩
 ·rintro⟨⟨k2,v2⟩,hk2,hi2,h_2⟩ hq2;have hm2:=(hq2.1 19 _ _ rfl);try dsimp only at hk2 hi2 h_2
  clear hq2;cbv
  by_cases hc2_:k2<a0_Off.length
  ·have hb3:lt v2 (llen (r_I64 a0_Off))=true:=e8 hg ht hi2 hc2_;have hs2:=iM hg ht hi2 hc2_ hm2;obtain⟨z2,hz2⟩:=aX hc2_;rw[aH hz2] at h_2;rw[ca] at h_2;try rw[←hg] at h_2
   try rw[←ht] at h_2
   try dsimp only at h_2
   rw[hb3];cbv;refine AStep.mk (fP hi2) ?_;cbv;refine AGet.mk _ (fT hg ht hi2 hz2) ?_;cbv;obtain⟨x2,hx2,h_2⟩:=ah h_2;try dsimp only at h_2
   refine ACall.mk _ _ rfl (hF _ _ _ (ez hg ht hx2)) (.inl rfl) (nb rfl) ?_;cbv
   cases hb4:x2
   ·rw[aa hb4] at h_2;cbv;iterate 4 try(rw[hb4];cbv)
    obtain rfl:=Option.some.inj h_2;try dsimp only[lr,lrL,lrp,aZ] at h
    obtain rfl:=Option.some.inj h;exact ARet.mk trivial hX.symm
   rw[ab hb4] at h_2;cbv;iterate 2 try(rw[hb4];cbv)
   cases hb5:(lt 0 v2)
   ·rw[aa hb5] at h_2;cbv;iterate 7 try(rw[hb5];cbv)
    try(rw[hb4];cbv)
    try(rw[hb5];cbv)
    try(rw[hb4];cbv)
    try rw[hg] at h_2
    try rw[ht] at h_2
    refine⟨⟨(k2+1,(wrap .i64 (add v2 1))),hc2_,hs2,h_2⟩,Wk.of [(0,some 0)] rfl rfl ?_ ?_,bc hc2_⟩
    ·cbv;all_goals exact⟨⟨_,rfl,rfl⟩,⟨_,rfl,rfl⟩,⟨_,rfl,rfl⟩,⟨_,rfl,rfl⟩,trivial⟩
    cbv;all_goals exact⟨⟨_,rfl,_,rfl,rfl,rfl,rfl,trivial⟩,trivial⟩
   rw[ab hb5] at h_2;cbv;iterate 4 try(rw[hb5];cbv)
   obtain⟨hc1,h_2⟩:=ak h_2;refine AStep.mk hc1 ?_;cbv;obtain⟨x3,hx3,h_2⟩:=aE h_2;try dsimp only at h_2
   refine AGet.mk _ (e7 hg ht hx3) ?_;cbv;iterate 3 try(rw[hb5];cbv)
   try(rw[hb4];cbv)
   try(rw[hb5];cbv)
   try(rw[hb4];cbv)
   cases hb6:(le z2 x3)
   rotate_left
   ·rw[ab hb6] at h_2;cbv;obtain rfl:=Option.some.inj h_2;try dsimp only[lr,lrL,lrp,aZ] at h
    obtain rfl:=Option.some.inj h;exact ARet.mk trivial hX.symm
   rw[aa hb6] at h_2;cbv;try rw[hg] at h_2
   try rw[ht] at h_2
   refine⟨⟨(k2+1,(wrap .i64 (add v2 1))),hc2_,hs2,h_2⟩,Wk.of [(0,some 0)] rfl rfl ?_ ?_,bc hc2_⟩
   ·cbv;all_goals exact⟨⟨_,rfl,rfl⟩,⟨_,rfl,rfl⟩,⟨_,rfl,rfl⟩,⟨_,rfl,rfl⟩,trivial⟩
   cbv;all_goals exact⟨⟨_,rfl,_,rfl,rfl,rfl,rfl,trivial⟩,trivial⟩
  have hb3:lt v2 (llen (r_I64 a0_Off))=false:=eE hg ht hi2 hc2_;rw[List.drop_of_length_le (Nat.le_of_not_lt hc2_)] at h_2;rw[ca] at h_2;try rw[←hg] at h_2
  try rw[←ht] at h_2
  try dsimp only at h_2
  rw[hb3];cbv;refine⟨(),Wk.of [(0,some 0)] rfl rfl ?_ ?_,(Option.some.inj h_2).symm⟩
  ·cbv;all_goals exact⟨⟨_,rfl,rfl⟩,trivial⟩
  cbv;all_goals exact⟨⟨_,rfl,_,rfl,rfl,rfl,rfl,trivial⟩,trivial⟩
 rintro _ hy2;replace hy2:=hy2.symm;subst hy2;try dsimp only[lr,lrL,lrp,aZ] at h
 cbv
 cases hb7:(le (llen (r_Leg a0_Legs)) 20)
 ·rw[aa hb7] at h;cbv;iterate 4 try(rw[hb7];cbv)
  obtain rfl:=Option.some.inj h;exact ARet.mk trivial hX.symm
 rw[ab hb7] at h;cbv;iterate 4 try(rw[hb7];cbv)
 cases hb8:(le (llen (r_I64 a0_Off)) 10)
 ·rw[aa hb8] at h;cbv;iterate 3 try(rw[hb8];cbv)
  obtain rfl:=Option.some.inj h;exact ARet.mk trivial hX.symm
 rw[ab hb8] at h;cbv;iterate 2 try(rw[hb8];cbv)
 obtain⟨x4,hx4,h⟩:=ah h;try dsimp only at h
 refine ACall.mk _ _ rfl (hF _ _ _ (ez hg ht hx4)) (.inl rfl) (nb rfl) ?_;cbv;try(rw[hb8];cbv)
 obtain rfl:=Option.some.inj h;exact ARet.mk trivial hX.symm
def Gk:J:=js [jq 3 (.box 0),jm 6 kf] [1,2,3] (.seq (js [jm 9 1,jb 10 .lss .i 9 (ki 0),jm 11 10,jv 12 11 (.mv 1),jv 13 11 (.fa 0 3),jv 14 11 (.ld false 1 13),jv 15 11 (.len false 14),jv 16 11 (.bin .geq .i 12 15),jq 17 (.pick 11 kt 16),jm 18 17,jv 19 18 (.mv 2),jv 20 18 (.call 87 true [19,(ki 0),(ki 60)]),jv 21 18 (.not 20),jq 22 (.pick 18 kt 21),jm 23 22,jv 24 23 (.fa 0 3),jv 25 23 (.ld false 1 24),jv 26 23 (.mv 1),jv 27 23 (.ia 6 25 26),jv 28 23 (.fa 4 27),jv 29 23 (.ld false 1 28),jv 30 23 (.mv 2),jv 31 23 (.bin .rem .i 30 (ki 7)),jv 32 23 (.bin .shr .i 29 31),jv 33 23 (.bin .and .i 32 (ki 1)),jv 34 23 (.bin .eql .i 33 (ki 0)),jq 35 (.pick 23 kt 34)] [2,3,35] (.cond 35 (js [jm 6 kf] [6] .ret) .skip)) (.seq (js [jf 36 1 3,jk 37 36,jq 38 (.len false 37),jm 39 (ki 0)] [2,37,38,39] (.bl 0 (js [jb 40 .lss .i 39 38] [2,37,38,39,40] (.seq (.cond 40 .skip (.exit 0)) (.seq (.block 1 (js [ja 41 1 37 39,jk 42 41,jm 8 42] [2,8,37,38,39] (js [jm 43 8,jm 44 2,jb 45 .eql .i 43 44] [2,37,38,39,45] (.cond 45 (js [jm 6 kf] [6] .ret) .skip)))) (.reg none [jb 46 .add .i 39 (ki 1),jm 39 46] [2,37,38,39])))))) (js [jm 6 kt] [6] .ret)))
def Gi:List RV:=[.t 6]
def gc (g:G) (t:TE) (a2:Int):List Int→LR Bool Unit
 |[]=>
  (LR.out ())
 |z1::ls1=>
  br (g.eq z1 a2)
  (
   (LR.ret false))
  (
   gc g t a2 ls1)
def lK (g:G) (t:TE) (a0:Network) (a1:Int) (a2:Int):Option Bool:=
 br (g.lt a1 0)
 (
  some false)
 (
  br (g.le (g.llen (t.r_Leg a0.Legs)) a1)
  (
   some false)
  (
   lP (dW g t a2 0 60) fun x1=>
   br x1
   (
    gd (((0:Int)≤a1))<|
    gt a0.Legs (g.nat a1) fun x2=>
    gd (((0:Int)≤(g.rem a2 7)))<|
    br (g.eq (g.band .i64 (g.shr .i64 x2.Days (g.rem a2 7)) 1) 0)
    (
     some false)
    (
     lP (gc g t a2 a0.Off) fun o1=>lr o1 fun y1=>
     some true))
   (
    some false)))
theorem rC {g:G} {t:TE} {a0:Network} {a1:Int} {a2:Int} {r:Bool} (hg:g=G.real) (ht:t=TE.real) (h:lK g t a0 a1 a2=some r):Fn Tryz.prog 100 [.g (Network.rs t a0),.c (.v (.int .i64 a1)),.c (.v (.int .i64 a2))] (.c (.r (.v (.bool r)))):=by
 obtain⟨X,hX⟩:=aC (.c (.r (.v (.bool r))):X);rw[←hX];refine aA (rvs:=Gi) (j:=Gk) Tryz.func100 rfl (by kernel_rfl) (nb rfl) (by kernel_rfl) af ?_;intro g2 F hg2 hF;obtain rfl:g2=g:=hg2.unique.trans hg.symm;clear hg2;obtain⟨wrap,lt,le,eq,_,rem,band,_,_,_,shr,_,_,add,_,_,_,_,_,_,_,llen⟩:=g2;obtain⟨_,_,_,_,r_Leg,_,r_I64⟩:=t
 obtain⟨a0_Legs,a0_Off,a0_Change⟩:=a0;unfold lK at h;try dsimp only at h
 cbv
 cases hb1:(lt a1 0)
 rotate_left
 ·rw[ab hb1] at h;cbv;iterate 5 try(rw[hb1];cbv)
  obtain rfl:=Option.some.inj h;exact ARet.mk trivial hX.symm
 rw[aa hb1] at h;cbv;iterate 5 try(rw[hb1];cbv)
 cases hb2:(le (llen (r_Leg a0_Legs)) a1)
 rotate_left
 ·rw[ab hb2] at h;cbv;iterate 3 try(rw[hb2];cbv)
  obtain rfl:=Option.some.inj h;exact ARet.mk trivial hX.symm
 rw[aa hb2] at h;cbv;try(rw[hb2];cbv)
 obtain⟨x1,hx1,h⟩:=ah h;try dsimp only at h
 refine ACall.mk _ _ rfl (hF _ _ _ (ez hg ht hx1)) (.inl rfl) (nb rfl) ?_;cbv;iterate 2 try(rw[hb2];cbv)
 cases hb3:x1
 ·rw[aa hb3] at h;cbv;iterate 11 try(rw[hb3];cbv)
  obtain rfl:=Option.some.inj h;exact ARet.mk trivial hX.symm
 rw[ab hb3] at h;cbv;iterate 3 try(rw[hb3];cbv)
 obtain⟨hc1,h⟩:=ak h;refine AStep.mk hc1 ?_;cbv;obtain⟨x2,hx2,h⟩:=aE h;obtain⟨x2_From,x2_To,x2_Start,x2_Takes,x2_Days,x2_Room⟩:=x2;try dsimp only at h
 refine AGet.mk _ (bk hg ht hx2) ?_;cbv;iterate 4 try(rw[hb3];cbv)
 refine AStep.mk (by decide) ?_;cbv;try(rw[hb3];cbv)
 obtain⟨hc2,h⟩:=ak h;refine AStep.mk hc2 ?_;cbv;iterate 3 try(rw[hb3];cbv)
 cases hb4:(eq (band .i64 (shr .i64 x2_Days (rem a2 7)) 1) 0)
 rotate_left
 ·rw[ab hb4] at h;cbv;obtain rfl:=Option.some.inj h;exact ARet.mk trivial hX.symm
 rw[aa hb4] at h;cbv;obtain⟨o1,ho1,h⟩:=ah h;try dsimp only at h
 try rw[hg] at ho1
 try rw[ht] at ho1
 refine ABL.mk {p:Nat×Int//p.1≤a0_Off.length∧p.2=((p.1:Nat):Int)∧gc G.real TE.real a2 (List.drop p.1 a0_Off)=o1} (fun⟨⟨k1,v1⟩,_⟩=>({sl:=[(2,.c (.r (.v (.int .i64 a2)))),(37,.c (.r (.s 1 (r_I64 a0_Off)))),(38,.c (.r (.v (.int .i64 (llen (r_I64 a0_Off)))))),(39,.c (.r (.v (.int .i64 v1))))],tab:=[]}:St)) 0 (fun p=>a0_Off.length-p.1.1) ⟨(0,0),Nat.zero_le _,rfl,ho1⟩ (Unit) (fun _=>({sl:=[],tab:=[]}:St)) 0 (fun y=>o1=LR.out y) ?_ ?_ ?_
 ·refine Wk.of [] rfl rfl ?_ ?_
  ·cbv;all_goals exact⟨⟨_,rfl,rfl⟩,⟨_,rfl,rfl⟩,⟨_,rfl,rfl⟩,⟨_,rfl,rfl⟩,trivial⟩
  cbv;all_goals exact trivial
 ·rintro⟨⟨k1,v1⟩,hk1,hi1,h_1⟩ hq1;have hm1:=(hq1.1 37 _ _ rfl);try dsimp only at hk1 hi1 h_1
  clear hq1;cbv
  by_cases hc1_:k1<a0_Off.length
  ·have hb5:lt v1 (llen (r_I64 a0_Off))=true:=e8 hg ht hi1 hc1_;have hs1:=iM hg ht hi1 hc1_ hm1;obtain⟨z1,hz1⟩:=aX hc1_;rw[aH hz1] at h_1;rw[gc] at h_1;try rw[←hg] at h_1
   try rw[←ht] at h_1
   try dsimp only at h_1
   rw[hb5];cbv;refine AStep.mk (fP hi1) ?_;cbv;refine AGet.mk _ (fT hg ht hi1 hz1) ?_;cbv
   cases hb6:(eq z1 a2)
   rotate_left
   ·rw[ab hb6] at h_1;cbv;subst h_1;try dsimp only[lr,lrL,lrp,aZ] at h
    obtain rfl:=Option.some.inj h;exact ARet.mk trivial hX.symm
   rw[aa hb6] at h_1;cbv;try rw[hg] at h_1
   try rw[ht] at h_1
   refine⟨⟨(k1+1,(wrap .i64 (add v1 1))),hc1_,hs1,h_1⟩,Wk.of [] rfl rfl ?_ ?_,bc hc1_⟩
   ·cbv;all_goals exact⟨⟨_,rfl,rfl⟩,⟨_,rfl,rfl⟩,⟨_,rfl,rfl⟩,⟨_,rfl,rfl⟩,trivial⟩
   cbv;all_goals exact trivial
  have hb5:lt v1 (llen (r_I64 a0_Off))=false:=eE hg ht hi1 hc1_;rw[List.drop_of_length_le (Nat.le_of_not_lt hc1_)] at h_1;rw[gc] at h_1;try rw[←hg] at h_1
  try rw[←ht] at h_1
  try dsimp only at h_1
  rw[hb5];cbv;refine⟨(),Wk.of [] rfl rfl ?_ ?_,h_1.symm⟩
  ·cbv;all_goals exact trivial
  cbv;all_goals exact trivial
 rintro _ hy1;replace hy1:=hy1.symm;subst hy1;try dsimp only[lr,lrL,lrp,aZ] at h
 cbv;obtain rfl:=Option.some.inj h;exact ARet.mk trivial hX.symm
def Gn:J:=js [jq 3 (.box 0),jm 6 kf] [1,2,3] (js [jl 7 3 3,jc 8 54 [7],jm 9 8,ju 10 9 (.ld true 3 3),ju 11 9 (.mv 1),ju 12 9 (.mv 2),ju 13 9 (.call 100 true [10,11,12]),jq 14 (.pick 9 13 kf),jm 6 14] [6] .ret)
def HE:List RV:=[.t 6]
def nv (g:G) (t:TE) (a0:Network) (a1:Int) (a2:Int):Option Bool:=
 cl (dF g t a0) fun x1=>
 br x1
 (
  cl (lK g t a0 a1 a2) fun x2=>
  some x2)
 (
  some false)
theorem yG {g:G} {t:TE} {a0:Network} {a1:Int} {a2:Int} {r:Bool} (hg:g=G.real) (ht:t=TE.real) (h:nv g t a0 a1 a2=some r):Fn Tryz.prog 131 [.g (Network.rs t a0),.c (.v (.int .i64 a1)),.c (.v (.int .i64 a2))] (.c (.r (.v (.bool r)))):=by
 obtain⟨X,hX⟩:=aC (.c (.r (.v (.bool r))):X);rw[←hX];refine aA (rvs:=HE) (j:=Gn) Tryz.func131 rfl (by kernel_rfl) (nb rfl) (by kernel_rfl) af ?_;intro g2 F hg2 hF;obtain rfl:g2=g:=hg2.unique.trans hg.symm;clear hg2;obtain⟨_⟩:=g2;obtain⟨_⟩:=t
 obtain⟨a0_Legs,a0_Off,a0_Change⟩:=a0;unfold nv at h;try dsimp only at h
 cbv;obtain⟨x1,hx1,h⟩:=ae h;try dsimp only at h
 refine ACall.mk _ _ rfl (hF _ _ _ (jI hg ht hx1)) (.inl rfl) (nb rfl) ?_;cbv
 cases hb1:x1
 ·rw[aa hb1] at h;cbv;iterate 4 try(rw[hb1];cbv)
  obtain rfl:=Option.some.inj h;exact ARet.mk trivial hX.symm
 rw[ab hb1] at h;cbv;iterate 3 try(rw[hb1];cbv)
 obtain⟨x2,hx2,h⟩:=ae h;try dsimp only at h
 refine ACall.mk _ _ rfl (hF _ _ _ (rC hg ht hx2)) (.inl rfl) (nb rfl) ?_;cbv;try(rw[hb1];cbv)
 obtain rfl:=Option.some.inj h;exact ARet.mk trivial hX.symm
def ir76:J:=js [jq 2 (.box 0),jq 3 (.box 1),jm 4 kf] [2,3] (js [jl 5 3 2,jf 6 0 3,jk 7 6,jf 8 1 3,jk 9 8,jc 10 131 [5,7,9],jm 4 10] [4] .ret)
def rv76:List RV:=[.t 4]
def iT (g:G) (t:TE) (a0:Network) (a1:Trip):Option Bool:=
 cl (nv g t a0 a1.Leg a1.Day) fun x1=>
 some x1
theorem rJ {g:G} {t:TE} {a0:Network} {a1:Trip} {r:Bool} (hg:g=G.real) (ht:t=TE.real) (h:iT g t a0 a1=some r):Fn Tryz.prog 76 [.g (Network.rs t a0),.g (Trip.rs t a1)] (.c (.r (.v (.bool r)))):=by
 obtain⟨X,hX⟩:=aC (.c (.r (.v (.bool r))):X);rw[←hX];refine aA (rvs:=rv76) (j:=ir76) Tryz.func76 rfl (by kernel_rfl) (nb rfl) (by kernel_rfl) af ?_;intro g2 F hg2 hF;obtain rfl:g2=g:=hg2.unique.trans hg.symm;clear hg2;obtain⟨_⟩:=g2;obtain⟨_⟩:=t
 obtain⟨a0_Legs,a0_Off,a0_Change⟩:=a0;obtain⟨a1_Leg,a1_Day⟩:=a1;unfold iT at h;try dsimp only at h
 cbv;obtain⟨x1,hx1,h⟩:=ae h;try dsimp only at h
 refine ACall.mk _ _ rfl (hF _ _ _ (yG hg ht hx1)) (.inl rfl) (nb rfl) ?_;cbv;obtain rfl:=Option.some.inj h;exact ARet.mk trivial hX.symm
end Go.Vs
namespace Go.Proofs
open Go.RowKit Go.Sort
set_option maxHeartbeats 2000000
set_option maxRecDepth 100000
def Tryz.lays192_ren : Go.Shelf.Ren := ⟨fun | 192 => 136 | 190 => 172 | 125 => 181 | 258 => 180 | 128 => 193 | 129 => 194 | 302 => 184 | 303 => 185 | 304 => 186 | 305 => 187 | 306 => 188 | 307 => 189 | 308 => 190 | 309 => 191 | 310 => 192 | 333 => 195 | 329 => 196 | 330 => 197 | 334 => 198 | 335 => 199 | 336 => 200 | 344 => 201 | n => n, fun | 31 => 66 | 0 => 0 | 9 => 9 | 3 => 3 | 46 => 170 | 51 => 185 | 53 => 187 | 4 => 4 | 183 => 177 | 182 => 176 | 131 => 182 | 5 => 5 | 218 => 188 | 222 => 192 | 228 => 194 | 229 => 195 | n => n, fun | n => n⟩
theorem Tryz.lays192 : Go.Proofs.Lays.n192 Tryz.prog Tryz.lays192_ren := {
  mixed := by kernel_rfl
  f125 := Tryz.func181.trans (congrArg some (by kernel_rfl))
  f128 := Tryz.func193.trans (congrArg some (by kernel_rfl))
  f129 := Tryz.func194.trans (congrArg some (by kernel_rfl))
  f190 := Tryz.func172.trans (congrArg some (by kernel_rfl))
  f192 := Tryz.func136.trans (congrArg some (by kernel_rfl))
  f258 := Tryz.func180.trans (congrArg some (by kernel_rfl))
  f302 := Tryz.func184.trans (congrArg some (by kernel_rfl))
  f303 := Tryz.func185.trans (congrArg some (by kernel_rfl))
  f304 := Tryz.func186.trans (congrArg some (by kernel_rfl))
  f305 := Tryz.func187.trans (congrArg some (by kernel_rfl))
  f306 := Tryz.func188.trans (congrArg some (by kernel_rfl))
  f307 := Tryz.func189.trans (congrArg some (by kernel_rfl))
  f308 := Tryz.func190.trans (congrArg some (by kernel_rfl))
  f309 := Tryz.func191.trans (congrArg some (by kernel_rfl))
  f310 := Tryz.func192.trans (congrArg some (by kernel_rfl))
  f329 := Tryz.func196.trans (congrArg some (by kernel_rfl))
  f330 := Tryz.func197.trans (congrArg some (by kernel_rfl))
  f333 := Tryz.func195.trans (congrArg some (by kernel_rfl))
  f334 := Tryz.func198.trans (congrArg some (by kernel_rfl))
  f335 := Tryz.func199.trans (congrArg some (by kernel_rfl))
  f336 := Tryz.func200.trans (congrArg some (by kernel_rfl))
  f344 := Tryz.func201.trans (congrArg some (by kernel_rfl))
  t0 := Tryz.underlying0
  a0 := Tryz.isAgg0
  z0 := Tryz.sizeOf0
  v0 := Tryz.zeroValue0
  t3 := Tryz.underlying3
  a3 := Tryz.isAgg3
  z3 := Tryz.sizeOf3
  v3 := Tryz.zeroValue3
  t4 := Tryz.underlying4
  a4 := Tryz.isAgg4
  z4 := Tryz.sizeOf4
  v4 := Tryz.zeroValue4
  t5 := Tryz.underlying5
  a5 := Tryz.isAgg5
  z5 := Tryz.sizeOf5
  v5 := Tryz.zeroValue5
  t9 := Tryz.underlying9
  a9 := Tryz.isAgg9
  z9 := Tryz.sizeOf9
  v9 := Tryz.zeroValue9
  t31 := Tryz.underlying66
  a31 := Tryz.isAgg66
  z31 := Tryz.sizeOf66
  v31 := Tryz.zeroValue66
  t46 := Tryz.underlying170
  a46 := Tryz.isAgg170
  z46 := Tryz.sizeOf170
  v46 := Tryz.zeroValue170
  t51 := Tryz.underlying185
  a51 := Tryz.isAgg185
  z51 := Tryz.sizeOf185
  v51 := Tryz.zeroValue185
  t53 := Tryz.underlying187
  a53 := Tryz.isAgg187
  z53 := Tryz.sizeOf187
  v53 := Tryz.zeroValue187
  t131 := Tryz.underlying182
  a131 := Tryz.isAgg182
  z131 := Tryz.sizeOf182
  v131 := Tryz.zeroValue182
  t182 := Tryz.underlying176
  a182 := Tryz.isAgg176
  z182 := Tryz.sizeOf176
  v182 := Tryz.zeroValue176
  t183 := Tryz.underlying177
  a183 := Tryz.isAgg177
  z183 := Tryz.sizeOf177
  v183 := Tryz.zeroValue177
  t218 := Tryz.underlying188
  a218 := Tryz.isAgg188
  z218 := Tryz.sizeOf188
  v218 := Tryz.zeroValue188
  t222 := Tryz.underlying192
  a222 := Tryz.isAgg192
  z222 := Tryz.sizeOf192
  v222 := Tryz.zeroValue192
  t228 := Tryz.underlying194
  a228 := Tryz.isAgg194
  z228 := Tryz.sizeOf194
  v228 := Tryz.zeroValue194
  t229 := Tryz.underlying195
  a229 := Tryz.isAgg195
  z229 := Tryz.sizeOf195
  v229 := Tryz.zeroValue195 }
theorem Tryz.insS_nil (p:Option Addr) (cap:Nat) (w:World):
 Calls Tryz.prog 184 #[.slice p 0 cap,.int .i64 0,.int .i64 0] w fun e w'=>e=.returned (.tuple #[])∧w'=w:=by
 go_enter Tryz.func184,Tryz.ntmps184
 go_wp2
 refine wp_loop_rounds 1 ?_
 rw[rounds_succ]
 go_wp2
 go_end0
 exact⟨rfl,rfl⟩
theorem Tryz.pdqS_nil (p:Option Addr) (cap:Nat) (w:World):
 Calls Tryz.prog 180 #[.slice p 0 cap,.int .i64 0,.int .i64 0,.int .i64 0] w fun e w'=>e=.returned (.tuple #[])∧w'=w:=by
 go_enter Tryz.func180,Tryz.ntmps180
 go_wp2
 refine wp_loop_rounds 1 ?_
 rw[rounds_succ]
 go_wp2_with (first|(go_at_call 184;refine(Tryz.insS_nil p cap _).mono ?_;rintro e w' ⟨rfl,rfl⟩))
 refine bodyPost_ret (results_none rfl _ _ _) rfl ?_
 exact⟨rfl,rfl⟩
theorem Tryz.sortS_nil (p:Option Addr) (cap:Nat) (w:World):
 Calls Tryz.prog 172 #[.slice p 0 cap] w fun e w'=>e=.returned (.tuple #[])∧w'=w:=by
 have hLen:∀w,Calls Tryz.prog 181 #[.int .u64 0] w fun e w'=>e=.returned (.int .i64 0)∧w'=w:=fun w=>calls_of_every_depth fun D=>AnyS.bits_LenInS {Tryz.lays192 with} D 0 w (by omega) (by omega)
 go_enter Tryz.func172,Tryz.ntmps172
 go_wp2_with (first
  |(go_at_call 181;refine(hLen _).mono ?_;rintro e w' ⟨rfl,rfl⟩)
  |(go_at_call 180;refine(Tryz.pdqS_nil p cap _).mono ?_;rintro e w' ⟨rfl,rfl⟩))
 go_end0
 exact⟨rfl,rfl⟩
theorem Tryz.strs_nil (p:Option Addr) (cap:Nat) (w:World):
 Calls Tryz.prog 136 #[.slice p 0 cap] w fun e w'=>e=.returned (.tuple #[])∧w'=w:=by
 go_enter Tryz.func136,Tryz.ntmps136
 go_wp2_with (first|(go_at_call 172;refine(Tryz.sortS_nil p cap _).mono ?_;rintro e w' ⟨rfl,rfl⟩))
 go_end0
 exact⟨rfl,rfl⟩
end Go.Proofs
namespace Go.Vs
open Go.Proofs Go.RowKit
set_option linter.unusedVariables false
def i6 (g:G) (t:TE) (a0:List ByteArray):Option (List ByteArray):=gd (a0.length<4611686018427387904)<|some (mT a0)
theorem o7 {g:G} {t:TE} {a0 r:List ByteArray} (hg:g=G.real) (ht:t=TE.real) (h:i6 g t a0=some r):FnM Tryz.prog 136 (.m (.o 1 (t.d_S a0))) [] (.u []) (.m (.o 1 (t.d_S r))):=by
 obtain⟨hl,h⟩:=ak h;cases h
 subst ht;exact Bx a0 hl (fun blk cap w hH hb=>calls_of_every_depth fun D=>AnyS.sort_Strings_in Tryz.lays192 D blk 0 cap (a0.map bOf) w hH hb (by simpa using hl)) (fun e w=>Tryz.strs_nil none 0 w)
set_option maxRecDepth 100000
def ir82:J:=js [jq 1 (.box 0),jq 2 (.mv (.k (.c (.n 1))))] [1] (js [jq 9 (.mkm true),jm 3 9] [1,3] (js [jq 10 (.bsl 1 []),jm 4 10] [1,3,4] (.seq (js [jf 11 0 1,jk 12 11,jq 13 (.len false 12),jm 14 (ki 0)] [3,4,12,13,14] (.bl 0 (js [jb 15 .lss .i 14 13] [3,4,12,13,14,15] (.seq (.cond 15 .skip (.exit 0)) (.seq (.block 1 (js [ja 16 6 12 14,jl 17 6 16,jq 6 (.alloc [.r (.v (.string .empty)),.r (.v (.string .empty)),.r (.v (.int .i64 0)),.r (.v (.int .i64 0)),.r (.v (.int .i64 0)),.r (.v (.int .i64 0))]),jp (.st 6 6 17)] [3,4,6,12,13,14] (js [jf 18 0 6,jk 19 18,jf 20 1 6,jk 21 20,jq 22 (.bsl 1 [19,21]),jq 23 (.len false 22),jm 24 (ki 0)] [3,4,12,13,14,22,23,24] (.bl 2 (js [jb 25 .lss .i 24 23] [3,4,12,13,14,22,23,24,25] (.seq (.cond 25 .skip (.exit 2)) (.seq (.block 3 (js [ja 26 1 22 24,jk 27 26,jm 8 27] [3,4,8,12,13,14,22,23,24] (js [jm 28 3,jm 29 8,jq 30 (.mlk true 28 29),jq 31 (.not 30)] [3,4,8,12,13,14,22,23,24,31] (.cond 31 (js [jm 32 3,jm 33 8,jp (.mup true 32 33)] [3,4,8,12,13,14,22,23,24] (.reg none [jm 34 4,jm 35 8,jq 36 (.bsl 1 [35]),jq 37 (.app 1 16 true 34 36),jm 4 37] [3,4,12,13,14,22,23,24])) .skip)))) (.reg none [jb 38 .add .i 24 (ki 1),jm 24 38] [3,4,12,13,14,22,23,24])))))))) (.reg none [jb 39 .add .i 14 (ki 1),jm 14 39] [3,4,12,13,14])))))) (js [jm 40 4,jq 41 (.callm 136 true 40 [])] [4] (js [jm 42 4,jm 2 42] [2] .ret)))))
def rv82:List RV:=[.t 2]
open Go.Proofs Go.IntWalk
set_option maxHeartbeats 4000000
def cD (g:G) (t:TE) (l2:List ByteArray):Nat→Int→List ByteArray→List ByteArray→Option ((List ByteArray)×List ByteArray)
 |0,v2,w3,w4=>
  some (w3,w4)
 |n2+1,v2,w3,w4=>
  gt l2 (g.nat v2) fun x1=>
  br (g.hasS w3 x1)
  (
   cD g t l2 n2 (g.wrap .i64 (g.add v2 1)) w3 w4)
  (
   lP ([x1]) fun(l3:List ByteArray)=>
   gd (((w4.length+l3.length)*16≤70368744177664))<|
   lP (w4++l3) fun(l4:List ByteArray)=>
   cD g t l2 n2 (g.wrap .i64 (g.add v2 1)) (g.putS w3 x1) l4)
def c9 (g:G) (t:TE):List Leg→List ByteArray→List ByteArray→Option (List ByteArray)
 |[],w1,w2=>
  some w2
 |z1::ls1,w1,w2=>
  lP ([z1.From,z1.To]) fun(l2:List ByteArray)=>
  gd (((g.int (g.dlen (t.d_S l2)))≤9223372036854775807))<|
  cl (cD g t l2 (ap 0 (g.int (g.dlen (t.d_S l2)))) 0 w1 w2) fun y1=>
  c9 g t ls1 y1.1 y1.2
def eo (g:G) (t:TE) (a0:Network):Option (List ByteArray):=
 lP ([]) fun(l1:List ByteArray)=>
 cl (c9 g t a0.Legs [] l1) fun y2=>
 cl (i6 g t y2) fun x2=>
 gd ((x2.length=y2.length))<|
 some x2
theorem iD {g:G} {t:TE} {a0:Network} {r:List ByteArray} (hg:g=G.real) (ht:t=TE.real) (h:eo g t a0=some r):Fn Tryz.prog 82 [.g (Network.rs t a0)] (.c (.o 1 (t.d_S r))):=by
 obtain⟨X,hX⟩:=aC (.c (.o 1 (t.d_S r)):X);rw[←hX];refine aA (rvs:=rv82) (j:=ir82) Tryz.func82 rfl (by kernel_rfl) (nb rfl) (by kernel_rfl) af ?_;intro g2 F hg2 hF;obtain rfl:g2=g:=hg2.unique.trans hg.symm;clear hg2;obtain⟨wrap,lt,_,_,_,_,_,_,_,_,_,_,int,add,_,_,_,_,_,_,_,llen,_,_,dlen,_,_,_,_,_,_,_,_,_,_,_,_,_,hasS,putS⟩:=g2;obtain⟨_,_,_,_,r_Leg,_,_,_,_,_,_,_,_,d_S⟩:=t
 obtain⟨a0_Legs,a0_Off,a0_Change⟩:=a0;unfold eo at h;try dsimp only at h
 cbv;obtain⟨l1,hl1,h⟩:=ah h;try dsimp only at h
 refine ANew.mk (d_S l1) (dlen (d_S l1)) (by rw[←hl1];exact jY hg ht []) (by rw[←hl1];exact iA hg ht []) ?_;cbv;obtain⟨o1,ho1,h⟩:=ae h;try dsimp only at h
 try rw[hg] at ho1
 try rw[ht] at ho1
 refine ABL.mk {p:Nat×Int×(List ByteArray)×List ByteArray//p.1≤a0_Legs.length∧p.2.1=((p.1:Nat):Int)∧c9 G.real TE.real (List.drop p.1 a0_Legs) p.2.2.1 p.2.2.2=some o1} (fun⟨⟨k1,v1,w1,w2⟩,_⟩=>({sl:=[(3,.c (.m 0)),(4,.c (.f 1 1 0 (dlen (d_S w2)))),(12,.c (.r (.s 6 (r_Leg a0_Legs)))),(13,.c (.r (.v (.int .i64 (llen (r_Leg a0_Legs)))))),(14,.c (.r (.v (.int .i64 v1))))],tab:=[(0,some (.ms w1)),(1,some (.arr 1 (d_S w2)))]}:St)) 2 (fun p=>a0_Legs.length-p.1.1) ⟨(0,0,[],l1),Nat.zero_le _,rfl,ho1⟩ (List ByteArray) (fun y2=>({sl:=[(4,.c (.f 0 1 0 (dlen (d_S y2))))],tab:=[(0,some (.arr 1 (d_S y2)))]}:St)) 1 (fun y=>o1=y) ?_ ?_ ?_
 ·refine Wk.of [(0,some 32),(1,some 64)] rfl rfl ?_ ?_
  ·cbv;all_goals exact⟨⟨_,rfl,rfl⟩,⟨_,rfl,rfl⟩,⟨_,rfl,rfl⟩,⟨_,rfl,rfl⟩,⟨_,rfl,rfl⟩,trivial⟩
  cbv;all_goals exact⟨⟨_,rfl,rfl⟩,⟨_,rfl,rfl⟩,trivial⟩
 ·rintro⟨⟨k1,v1,w1,w2⟩,hk1,hi1,h_1⟩ hq1;have hm1:=(hq1.1 12 _ _ rfl);try dsimp only at hk1 hi1 h_1
  clear hq1;cbv
  by_cases hc1_:k1<a0_Legs.length
  ·have hb1:lt v1 (llen (r_Leg a0_Legs))=true:=eZ hg ht hi1 hc1_;have hs1:=iL hg ht hi1 hc1_ hm1;obtain⟨z1,hz1⟩:=aX hc1_;rw[aH hz1] at h_1;rw[c9] at h_1;obtain⟨z1_From,z1_To,z1_Start,z1_Takes,z1_Days,z1_Room⟩:=z1;try rw[←hg] at h_1
   try rw[←ht] at h_1
   try dsimp only at h_1
   rw[hb1];cbv;refine AStep.mk (fP hi1) ?_;cbv;refine AGet.mk _ (eT hg ht hi1 hz1) ?_;cbv;obtain⟨l2,hl2,h_1⟩:=ah h_1;try dsimp only at h_1
   refine ANew.mk (d_S l2) (dlen (d_S l2)) (by rw[←hl2];exact jY hg ht [z1_From,z1_To]) (by rw[←hl2];exact iA hg ht [z1_From,z1_To]) ?_;cbv;obtain⟨hB2,h_1⟩:=ak h_1;obtain⟨o2,ho2,h_1⟩:=ae h_1;try dsimp only at h_1
   try rw[hg] at ho2
   try rw[ht] at ho2
   refine ABL.mk {p:Nat×Int×(List ByteArray)×List ByteArray//p.1=ap p.2.1 (int (dlen (d_S l2)))∧0≤p.2.1∧cD G.real TE.real l2 p.1 p.2.1 p.2.2.1 p.2.2.2=some o2} (fun⟨⟨n2,v2,w3,w4⟩,_⟩=>({sl:=[(3,.c (.m 0)),(4,.c (.f 1 1 0 (dlen (d_S w4)))),(12,.c (.r (.s 6 (r_Leg a0_Legs)))),(13,.c (.r (.v (.int .i64 (llen (r_Leg a0_Legs)))))),(14,.c (.r (.v (.int .i64 v1)))),(22,.c (.f 2 1 0 (dlen (d_S l2)))),(23,.c (.r (.v (.int .i64 (int (dlen (d_S l2))))))),(24,.c (.r (.v (.int .i64 v2))))],tab:=[(0,some (.ms w3)),(1,some (.arr 1 (d_S w4))),(2,some (.arr 1 (d_S l2)))]}:St)) 3 (fun p=>p.1.1) ⟨(ap 0 (int (dlen (d_S l2))),0,w1,w2),rfl,Int.le_refl _,ho2⟩ ((List ByteArray)×List ByteArray) (fun⟨y1_1,y1_2⟩=>({sl:=[(3,.c (.m 0)),(4,.c (.f 1 1 0 (dlen (d_S y1_2)))),(12,.c (.r (.s 6 (r_Leg a0_Legs)))),(13,.c (.r (.v (.int .i64 (llen (r_Leg a0_Legs)))))),(14,.c (.r (.v (.int .i64 v1))))],tab:=[(0,some (.ms y1_1)),(1,some (.arr 1 (d_S y1_2)))]}:St)) 2 (fun y=>o2=y) ?_ ?_ ?_
   ·refine Wk.of [(0,some 0),(1,some 1),(2,some 146)] rfl rfl ?_ ?_
    ·cbv;all_goals exact⟨⟨_,rfl,rfl⟩,⟨_,rfl,rfl⟩,⟨_,rfl,rfl⟩,⟨_,rfl,rfl⟩,⟨_,rfl,rfl⟩,⟨_,rfl,rfl⟩,⟨_,rfl,rfl⟩,⟨_,rfl,rfl⟩,trivial⟩
    cbv;all_goals exact⟨⟨_,rfl,rfl⟩,⟨_,rfl,rfl⟩,⟨_,rfl,rfl⟩,trivial⟩
   ·rintro⟨⟨n2,v2,w3,w4⟩,hn2,hi2,h_2⟩ hq2;try dsimp only at hn2 hi2 h_2
    clear hq2;cbv;rcases n2 with _|n2
    ·have hb2:lt v2 (int (dlen (d_S l2)))=false:=ba hg hn2;rw[cD] at h_2;try rw[←hg] at h_2
     try rw[←ht] at h_2
     try dsimp only at h_2
     rw[hb2];cbv;refine⟨(w3,w4),Wk.of [(0,some 0),(1,some 1)] rfl rfl ?_ ?_,(Option.some.inj h_2).symm⟩
     ·cbv;all_goals exact⟨⟨_,rfl,rfl⟩,⟨_,rfl,rfl⟩,⟨_,rfl,rfl⟩,⟨_,rfl,rfl⟩,⟨_,rfl,rfl⟩,trivial⟩
     cbv;all_goals exact⟨⟨_,rfl,rfl⟩,⟨_,rfl,rfl⟩,trivial⟩
    have hb2:lt v2 (int (dlen (d_S l2)))=true:=bt hg hn2;have hl2:=cR hn2;have hs2:=bS hg hn2 hi2 hB2 (by decide);rw[cD] at h_2;try rw[←hg] at h_2
    try rw[←ht] at h_2
    try dsimp only at h_2
    rw[hb2];cbv;refine AStep.mk (di hg hi2 hl2) ?_;cbv;obtain⟨x1,hx1,h_2⟩:=aE h_2;try dsimp only at h_2
    refine AGet.mk _ (ma hg ht hx1) ?_;cbv
    cases hb3:(hasS w3 x1)
    rotate_left
    ·rw[ab hb3] at h_2;cbv;try rw[hg] at h_2
     try rw[ht] at h_2
     refine⟨⟨(n2,(wrap .i64 (add v2 1)),w3,w4),hs2.1,hs2.2,h_2⟩,Wk.of [(0,some 0),(1,some 1),(2,some 2)] rfl rfl ?_ ?_,Nat.lt_succ_self _⟩
     ·cbv;all_goals exact⟨⟨_,rfl,rfl⟩,⟨_,rfl,rfl⟩,⟨_,rfl,rfl⟩,⟨_,rfl,rfl⟩,⟨_,rfl,rfl⟩,⟨_,rfl,rfl⟩,⟨_,rfl,rfl⟩,⟨_,rfl,rfl⟩,trivial⟩
     cbv;all_goals exact⟨⟨_,rfl,rfl⟩,⟨_,rfl,rfl⟩,⟨_,rfl,rfl⟩,trivial⟩
    rw[aa hb3] at h_2;cbv;obtain⟨l3,hl3,h_2⟩:=ah h_2;try dsimp only at h_2
    refine ANew.mk (d_S l3) (dlen (d_S l3)) (by rw[←hl3];exact jY hg ht [x1]) (by rw[←hl3];exact iA hg ht [x1]) ?_;cbv;obtain⟨hc1,h_2⟩:=ak h_2;refine AStep.mk ⟨⟨rfl,(ar hg ht _)⟩,(d9 hg ht (ar hg ht _) rfl hc1)⟩ ?_;cbv;obtain⟨l4,hl4,h_2⟩:=ah h_2;try dsimp only at h_2
    refine ANew.mk (d_S l4) (dlen (d_S l4)) (by rw[←hl4];exact jX hg ht (ar hg ht _) rfl) (by rw[←hl4];exact gL hg ht (ar hg ht _) rfl) ?_;cbv;try rw[hg] at h_2
    try rw[ht] at h_2
    refine⟨⟨(n2,(wrap .i64 (add v2 1)),(putS w3 x1),l4),hs2.1,hs2.2,h_2⟩,Wk.of [(0,some 0),(1,some 227),(2,some 2)] rfl rfl ?_ ?_,Nat.lt_succ_self _⟩
    ·cbv;all_goals exact⟨⟨_,rfl,rfl⟩,⟨_,rfl,rfl⟩,⟨_,rfl,rfl⟩,⟨_,rfl,rfl⟩,⟨_,rfl,rfl⟩,⟨_,rfl,rfl⟩,⟨_,rfl,rfl⟩,⟨_,rfl,rfl⟩,trivial⟩
    cbv;all_goals exact⟨⟨_,rfl,rfl⟩,⟨_,rfl,rfl⟩,⟨_,rfl,rfl⟩,trivial⟩
   rintro⟨y1_1,y1_2⟩ hy2;replace hy2:=hy2.symm;subst hy2;try dsimp only[lr,lrL,lrp,aZ] at h_1
   cbv;try rw[hg] at h_1
   try rw[ht] at h_1
   refine⟨⟨(k1+1,(wrap .i64 (add v1 1)),y1_1,y1_2),hc1_,hs1,h_1⟩,Wk.of [(0,some 0),(1,some 1)] rfl rfl ?_ ?_,bc hc1_⟩
   ·cbv;all_goals exact⟨⟨_,rfl,rfl⟩,⟨_,rfl,rfl⟩,⟨_,rfl,rfl⟩,⟨_,rfl,rfl⟩,⟨_,rfl,rfl⟩,trivial⟩
   cbv;all_goals exact⟨⟨_,rfl,rfl⟩,⟨_,rfl,rfl⟩,trivial⟩
  have hb1:lt v1 (llen (r_Leg a0_Legs))=false:=eG hg ht hi1 hc1_;rw[List.drop_of_length_le (Nat.le_of_not_lt hc1_)] at h_1;rw[c9] at h_1;try rw[←hg] at h_1
  try rw[←ht] at h_1
  try dsimp only at h_1
  rw[hb1];cbv;refine⟨w2,Wk.of [(0,some 1)] rfl rfl ?_ ?_,(Option.some.inj h_1).symm⟩
  ·cbv;all_goals exact⟨⟨_,rfl,rfl⟩,trivial⟩
  cbv;all_goals exact⟨⟨_,rfl,rfl⟩,trivial⟩
 rintro y2 hy1;replace hy1:=hy1.symm;subst hy1;try dsimp only[lr,lrL,lrp,aZ] at h
 cbv;refine AStep.mk ⟨rfl,(ar hg ht _)⟩ ?_;cbv;obtain⟨x2,hx2,h⟩:=ae h;try dsimp only at h
 refine ACallM.mk _ _ _ _ rfl rfl (hF _ _ _ (o7 hg ht hx2)) rfl (nb rfl) (nb rfl) ?_;cbv;obtain⟨hc2,h⟩:=ak h;obtain rfl:=Option.some.inj h;exact ARet.mk ⟨rfl,(EV ht (ar hg ht _) hc2)⟩ hX.symm
def ir84:J:=js [jm 4 (ki 0)] [0,1] (.seq (js [jm 7 0,jq 8 (.len false 7),jm 9 (ki 0)] [1,7,8,9] (.bl 0 (js [jb 10 .lss .i 9 8] [1,7,8,9,10] (.seq (.cond 10 .skip (.exit 0)) (.seq (.block 1 (js [jm 11 9,ja 12 1 7 9,jk 13 12,jm 5 11,jm 6 13] [1,5,6,7,8,9] (js [jm 14 6,jm 15 1,jb 16 .eql .s 14 15] [1,5,7,8,9,16] (.cond 16 (js [jm 17 5,jm 4 17] [4] .ret) .skip)))) (.reg none [jb 18 .add .i 9 (ki 1),jm 9 18] [1,7,8,9])))))) (js [jq 4 (.mv (.k (V.i (-1))))] [4] .ret))
def rv84:List RV:=[.t 4]
def cd (g:G) (t:TE) (a1:ByteArray):List ByteArray→Int→LR Int Unit
 |[],v1=>
  (LR.out ())
 |z1::ls1,v1=>
  br (g.seq z1 a1)
  (
   (LR.ret v1))
  (
   cd g t a1 ls1 (g.wrap .i64 (g.add v1 1)))
def cJ (g:G) (t:TE) (a0:List ByteArray) (a1:ByteArray):Int:=
 lP (cd g t a1 a0 0) fun o1=>lrp o1 fun y1=>
 (-1)
theorem fW {g:G} {t:TE} {a0:List ByteArray} {a1:ByteArray} {r:Int} (hg:g=G.real) (ht:t=TE.real) (h:cJ g t a0 a1=r):Fn Tryz.prog 84 [.c (.s 1 (t.r_S a0)),.c (.v (.string a1))] (.c (.r (.v (.int .i64 r)))):=by
 obtain⟨X,hX⟩:=aC (.c (.r (.v (.int .i64 r))):X);rw[←hX];refine aA (rvs:=rv84) (j:=ir84) Tryz.func84 rfl (by kernel_rfl) (nb rfl) (by kernel_rfl) af ?_;intro g2 F hg2 hF;obtain rfl:g2=g:=hg2.unique.trans hg.symm;clear hg2;obtain⟨wrap,lt,_,_,_,_,_,_,_,_,_,_,_,add,_,_,_,seq,_,_,_,llen⟩:=g2;obtain⟨_,_,_,_,_,_,_,_,_,_,_,_,r_S⟩:=t
 unfold cJ at h;try dsimp only at h
 cbv;obtain⟨o1,ho1,h⟩:=ah h;try dsimp only at h
 try rw[hg] at ho1
 try rw[ht] at ho1
 refine ABL.mk {p:Nat×Int//p.1≤a0.length∧p.2=((p.1:Nat):Int)∧cd G.real TE.real a1 (List.drop p.1 a0) p.2=o1} (fun⟨⟨k1,v1⟩,_⟩=>({sl:=[(1,.c (.r (.v (.string a1)))),(7,.c (.r (.s 1 (r_S a0)))),(8,.c (.r (.v (.int .i64 (llen (r_S a0)))))),(9,.c (.r (.v (.int .i64 v1))))],tab:=[]}:St)) 0 (fun p=>a0.length-p.1.1) ⟨(0,0),Nat.zero_le _,rfl,ho1⟩ (Unit) (fun _=>({sl:=[],tab:=[]}:St)) 0 (fun y=>o1=LR.out y) ?_ ?_ ?_
 ·refine Wk.of [] rfl rfl ?_ ?_
  ·cbv;all_goals exact⟨⟨_,rfl,rfl⟩,⟨_,rfl,rfl⟩,⟨_,rfl,rfl⟩,⟨_,rfl,rfl⟩,trivial⟩
  cbv;all_goals exact trivial
 ·rintro⟨⟨k1,v1⟩,hk1,hi1,h_1⟩ hq1;have hm1:=(hq1.1 7 _ _ rfl);try dsimp only at hk1 hi1 h_1
  clear hq1;cbv
  by_cases hc1_:k1<a0.length
  ·have hb1:lt v1 (llen (r_S a0))=true:=mX hg ht hi1 hc1_;have hs1:=uJ hg ht hi1 hc1_ hm1;obtain⟨z1,hz1⟩:=aX hc1_;rw[aH hz1] at h_1;rw[cd] at h_1;try rw[←hg] at h_1
   try rw[←ht] at h_1
   try dsimp only at h_1
   rw[hb1];cbv;refine AStep.mk (fP hi1) ?_;cbv;refine AGet.mk _ (wy hg ht hi1 hz1) ?_;cbv
   cases hb2:(seq z1 a1)
   rotate_left
   ·rw[ab hb2] at h_1;cbv;subst h_1;try dsimp only[lr,lrL,lrp,aZ] at h
    subst h;exact ARet.mk trivial hX.symm
   rw[aa hb2] at h_1;cbv;try rw[hg] at h_1
   try rw[ht] at h_1
   refine⟨⟨(k1+1,(wrap .i64 (add v1 1))),hc1_,hs1,h_1⟩,Wk.of [] rfl rfl ?_ ?_,bc hc1_⟩
   ·cbv;all_goals exact⟨⟨_,rfl,rfl⟩,⟨_,rfl,rfl⟩,⟨_,rfl,rfl⟩,⟨_,rfl,rfl⟩,trivial⟩
   cbv;all_goals exact trivial
  have hb1:lt v1 (llen (r_S a0))=false:=lh hg ht hi1 hc1_;rw[List.drop_of_length_le (Nat.le_of_not_lt hc1_)] at h_1;rw[cd] at h_1;try rw[←hg] at h_1
  try rw[←ht] at h_1
  try dsimp only at h_1
  rw[hb1];cbv;refine⟨(),Wk.of [] rfl rfl ?_ ?_,h_1.symm⟩
  ·cbv;all_goals exact trivial
  cbv;all_goals exact trivial
 rintro _ hy1;replace hy1:=hy1.symm;subst hy1;try dsimp only[lr,lrL,lrp,aZ] at h
 cbv;subst h;exact ARet.mk trivial hX.symm
def ir85:J:=js [jq 2 (.box 0),jq 3 (.box 1),jm 4 (ki 0)] [2,3] (.seq (.reg (some [[],[0],[0,1],[],[3],[],[5],[3,4,5,6],[3,4,5,6,7],[3,4,5,6,7,8],[0,1,2,3,4,5,6,7,8,9],[0,1,2,3,4,5,6,7,8,9,10]]) [jf 5 1 3,jk 6 5,jb 7 .mul .i 6 (ki 1440),jf 8 0 2,jk 9 8,jf 10 0 3,jk 11 10,ja 12 6 9 11,jf 13 2 12,jk 14 13,jb 15 .add .i 7 14,jm 4 15] [4]) .ret)
def rv85:List RV:=[.t 4]
def fA (g:G) (t:TE) (a0:Network) (a1:Trip):Option Int:=
 gd (((0:Int)≤a1.Leg))<|
 gt a0.Legs (g.nat a1.Leg) fun x1=>
 some (g.wrap .i64 (g.add (g.wrap .i64 (g.mul a1.Day 1440)) x1.Start))
theorem gE {g:G} {t:TE} {a0:Network} {a1:Trip} {r:Int} (hg:g=G.real) (ht:t=TE.real) (h:fA g t a0 a1=some r):Fn Tryz.prog 85 [.g (Network.rs t a0),.g (Trip.rs t a1)] (.c (.r (.v (.int .i64 r)))):=by
 obtain⟨X,hX⟩:=aC (.c (.r (.v (.int .i64 r))):X);rw[←hX];refine aA (rvs:=rv85) (j:=ir85) Tryz.func85 rfl (by kernel_rfl) (nb rfl) (by kernel_rfl) af ?_;intro g2 F hg2 hF;obtain rfl:g2=g:=hg2.unique.trans hg.symm;clear hg2;obtain⟨_⟩:=g2;obtain⟨_⟩:=t
 obtain⟨a0_Legs,a0_Off,a0_Change⟩:=a0;obtain⟨a1_Leg,a1_Day⟩:=a1;unfold fA at h;try dsimp only at h
 cbv;obtain⟨hc1,h⟩:=ak h;refine AStep.mk hc1 ?_;cbv;obtain⟨x1,hx1,h⟩:=aE h;obtain⟨x1_From,x1_To,x1_Start,x1_Takes,x1_Days,x1_Room⟩:=x1;try dsimp only at h
 refine AGet.mk _ (bk hg ht hx1) ?_;cbv;obtain rfl:=Option.some.inj h;exact ARet.mk trivial hX.symm
def ir86:J:=js [jq 2 (.box 0),jq 3 (.box 1),jm 4 (ki 0)] [2,3] (.seq (.reg (some [[],[],[0,1],[],[3],[],[5],[3,4,5,6],[3,4,5,6,7],[3,4,5,6,7,8],[0,1,2,3,4,5,6,7,8,9],[0,1,2,3,4,5,6,7,8,9,10]]) [jl 5 3 2,jl 6 2 3,jc 7 85 [5,6],jf 8 0 2,jk 9 8,jf 10 0 3,jk 11 10,ja 12 6 9 11,jf 13 3 12,jk 14 13,jb 15 .add .i 7 14,jm 4 15] [4]) .ret)
def rv86:List RV:=[.t 4]
def jM (g:G) (t:TE) (a0:Network) (a1:Trip):Option Int:=
 cl (fA g t a0 a1) fun x1=>
 gd (((0:Int)≤a1.Leg))<|
 gt a0.Legs (g.nat a1.Leg) fun x2=>
 some (g.wrap .i64 (g.add x1 x2.Takes))
theorem lO {g:G} {t:TE} {a0:Network} {a1:Trip} {r:Int} (hg:g=G.real) (ht:t=TE.real) (h:jM g t a0 a1=some r):Fn Tryz.prog 86 [.g (Network.rs t a0),.g (Trip.rs t a1)] (.c (.r (.v (.int .i64 r)))):=by
 obtain⟨X,hX⟩:=aC (.c (.r (.v (.int .i64 r))):X);rw[←hX];refine aA (rvs:=rv86) (j:=ir86) Tryz.func86 rfl (by kernel_rfl) (nb rfl) (by kernel_rfl) af ?_;intro g2 F hg2 hF;obtain rfl:g2=g:=hg2.unique.trans hg.symm;clear hg2;obtain⟨_⟩:=g2;obtain⟨_⟩:=t
 obtain⟨a0_Legs,a0_Off,a0_Change⟩:=a0;obtain⟨a1_Leg,a1_Day⟩:=a1;unfold jM at h;try dsimp only at h
 cbv;obtain⟨x1,hx1,h⟩:=ae h;try dsimp only at h
 refine ACall.mk _ _ rfl (hF _ _ _ (gE hg ht hx1)) (.inl rfl) (nb rfl) ?_;cbv;obtain⟨hc1,h⟩:=ak h;refine AStep.mk hc1 ?_;cbv;obtain⟨x2,hx2,h⟩:=aE h;obtain⟨x2_From,x2_To,x2_Start,x2_Takes,x2_Days,x2_Room⟩:=x2;try dsimp only at h
 refine AGet.mk _ (bk hg ht hx2) ?_;cbv;obtain rfl:=Option.some.inj h;exact ARet.mk trivial hX.symm
def ir91 (s_k0:ByteArray):J:=js [jq 2 (.box 0),jq 3 (.box 1),jm 4 kf] [2,3] (.seq (js [jl 5 3 2,jc 6 54 [5],jq 7 (.not 6),jm 8 7,jv 9 8 (.fa 0 3),jv 10 8 (.ld false 1 9),jv 11 8 (.call 87 true [10,(ki 1),(ki 9999)]),jv 12 8 (.not 11),jq 13 (.pick 8 kt 12),jm 14 13,jv 15 14 (.fa 1 3),jv 16 14 (.ld false 1 15),jv 17 14 (.call 87 true [16,(ki 0),(ki 100000)]),jv 18 14 (.not 17),jq 19 (.pick 14 kt 18)] [2,3,19] (.cond 19 (js [jm 4 kf] [4] .ret) .skip)) (.seq (js [jf 20 2 3,jk 21 20] [2,3,21] (.block 0 (.seq (js [jb 23 .eql .i 21 (ki 1),jm 22 23] [2,3,21,22] (.cond 22 .skip (.reg none [jb 24 .eql .i 21 (ki 4),jm 22 24] [2,3,21,22]))) (.cond 22 (.seq (.reg (some [[],[0],[],[2],[0,1,2,3],[0,1,2,3,4],[0,1,2,3,4,5],[0,1,2,3,4,5,6],[0,1,2,3,4,5,6,7],[0,1,2,3,4,5,6],[0,1,2,3,4,5,6,7,8,9],[0,1,2,3,4,5,6,7,8,9,10],[0,1,2,3,4,5,6,7,8,9,10,11]]) [jl 25 3 2,jc 26 82 [25],jf 27 3 3,jk 28 27,jc 29 84 [26,28],jb 30 .geq .i 29 (ki 0),jm 31 30,ju 32 31 (.fa 4 3),ju 33 31 (.ld true 2 32),ju 34 31 (.bld [.r (.v (.int .i64 0)),.r (.v (.int .i64 0))] []),ju 35 31 (.eqs false [.i,.i] 33 34),jq 36 (.pick 31 35 kf),jm 4 36] [4]) .ret) (js [jb 38 .eql .i 21 (ki 3),jm 37 38] [2,3,21,37] (.cond 37 (.seq (.reg (some [[],[0],[0,1],[0,1,2],[0,1,2,3],[0,1,2,3],[0,1,2,3,5],[0,1,2,3,4,5,6],[0,1,2,3,4,5,6,7],[0,1,2,3,4,5,6,7,8],[0,1,2,3,4,5,6,7,8,9],[0,1,2,3,4,5,6,7,8,9,10],[0,1,2,3,4,5,6,7,8,9],[0,1,2,3,4,5,6,7,8,9],[0,1,2,3,4,5,6,7,8,9,13],[0,1,2,3,4,5,6,7,8,9,12,13,14],[0,1,2,3,4,5,6,7,8,9,10,11,12,13,14,15],[0,1,2,3,4,5,6,7,8,9,10,11,12,13,14,15,16],[0,1,2,3,4,5,6,7,8,9,10,11,12,13,14,15,16,17]]) [jf 39 3 3,jk 40 39,jq 41 (.bin .eql .s 40 (.k (.c (.r (.v (.string s_k0)))))),jm 42 41,ju 43 42 (.ld true 3 2),ju 44 42 (.fa 4 3),ju 45 42 (.ld true 2 44),ju 46 42 (.call 76 true [43,45]),jq 47 (.pick 42 46 kf),jm 48 47,ju 49 48 (.fa 1 3),ju 50 48 (.ld false 1 49),ju 51 48 (.ld true 3 2),ju 52 48 (.fa 4 3),ju 53 48 (.ld true 2 52),ju 54 48 (.call 85 true [51,53]),ju 55 48 (.bin .leq .i 50 54),jq 56 (.pick 48 55 kf),jm 4 56] [4]) .ret) (js [jb 58 .eql .i 21 (ki 2),jm 57 58] [2,3,57] (.cond 57 (.seq (.reg (some [[],[0],[0,1],[0,1,2],[0,1,2,3],[0,1,2,3],[0,1,2,3,5],[0,1,2,3,4,5,6],[0,1,2,3,4,5,6,7],[0,1,2,3,4,5,6,7,8],[0,1,2,3,4,5,6,7,8,9],[0,1,2,3,4,5,6,7,8,9,10],[0,1,2,3,4,5,6,7,8,9],[0,1,2,3,4,5,6,7,8,9],[0,1,2,3,4,5,6,7,8,9,13],[0,1,2,3,4,5,6,7,8,9,12,13,14],[0,1,2,3,4,5,6,7,8,9,10,11,12,13,14,15],[0,1,2,3,4,5,6,7,8,9,10,11,12,13,14,15,16],[0,1,2,3,4,5,6,7,8,9,10,11,12,13,14,15,16,17]]) [jf 59 3 3,jk 60 59,jq 61 (.bin .eql
 .s 60 (.k (.c (.r (.v (.string s_k0)))))),jm 62 61,ju 63 62 (.ld true 3 2),ju 64 62 (.fa 4 3),ju 65 62 (.ld true 2 64),ju 66 62 (.call 76 true [63,65]),jq 67 (.pick 62 66 kf),jm 68 67,ju 69 68 (.fa 1 3),ju 70 68 (.ld false 1 69),ju 71 68 (.ld true 3 2),ju 72 68 (.fa 4 3),ju 73 68 (.ld true 2 72),ju 74 68 (.call 86 true [71,73]),ju 75 68 (.bin .geq .i 70 74),jq 76 (.pick 68 75 kf),jm 4 76] [4]) .ret) .skip)))))))) (js [jm 4 kf] [4] .ret)))
def rv91:List RV:=[.t 4]
def fB (g:G) (t:TE) (a0:Network) (a1:Scan):Option Bool:=
 cl (dF g t a0) fun x1=>
 br x1
 (
  lP (dW g t a1.Thing 1 9999) fun x2=>
  br x2
  (
   lP (dW g t a1.At 0 100000) fun x3=>
   br x3
   (
    br (g.eq a1.Kind 1)
    (
     cl (eo g t a0) fun x4=>
     lP (cJ g t x4 a1.Place) fun x5=>
     br (g.le 0 x5)
     (
      some (g.all [(g.eq a1.Trip.Leg 0),(g.eq a1.Trip.Day 0)]))
     (
      some false))
    (
     br (g.eq a1.Kind 4)
     (
      cl (eo g t a0) fun x6=>
      lP (cJ g t x6 a1.Place) fun x7=>
      br (g.le 0 x7)
      (
       some (g.all [(g.eq a1.Trip.Leg 0),(g.eq a1.Trip.Day 0)]))
      (
       some false))
     (
      br (g.eq a1.Kind 3)
      (
       br (g.seq a1.Place str_k0)
       (
        cl (iT g t a0 (Trip.mk a1.Trip.Leg a1.Trip.Day)) fun x8=>
        br x8
        (
         cl (fA g t a0 (Trip.mk a1.Trip.Leg a1.Trip.Day)) fun x9=>
         some (g.le a1.At x9))
        (
         some false))
       (
        some false))
      (
       br (g.eq a1.Kind 2)
       (
        br (g.seq a1.Place str_k0)
        (
         cl (iT g t a0 (Trip.mk a1.Trip.Leg a1.Trip.Day)) fun x10=>
         br x10
         (
          cl (jM g t a0 (Trip.mk a1.Trip.Leg a1.Trip.Day)) fun x11=>
          some (g.le x11 a1.At))
         (
          some false))
        (
         some false))
       (
        some false)))))
   (
    some false))
  (
   some false))
 (
  some false)
theorem gX {g:G} {t:TE} {a0:Network} {a1:Scan} {r:Bool} (hg:g=G.real) (ht:t=TE.real) (h:fB g t a0 a1=some r):Fn Tryz.prog 91 [.g (Network.rs t a0),.g (Scan.rs t a1)] (.c (.r (.v (.bool r)))):=by
 obtain⟨X,hX⟩:=aC (.c (.r (.v (.bool r))):X);rw[←hX];refine aA (rvs:=rv91) (j:=(ir91 str_k0)) Tryz.func91 rfl (by kernel_rfl) (nb rfl) (by kernel_rfl) af ?_;intro g2 F hg2 hF;obtain rfl:g2=g:=hg2.unique.trans hg.symm;clear hg2;obtain⟨_,_,le,eq,_,_,_,_,_,_,_,_,_,_,_,_,_,seq,_,_,_,_,_,_,dlen,_,_,_,rd⟩:=g2;obtain⟨_,_,_,_,_,_,_,_,_,_,_,_,r_S,d_S⟩:=t
 obtain⟨a0_Legs,a0_Off,a0_Change⟩:=a0;obtain⟨a1_Thing,a1_At,a1_Kind,a1_Place,⟨a1_Trip_Leg,a1_Trip_Day⟩⟩:=a1;unfold fB at h;try dsimp only at h
 obtain⟨s_k0,hs_k0⟩:∃s,str_k0=s:=⟨_,rfl⟩;try rw[hs_k0] at h
 rw[hs_k0];cbv;obtain⟨x1,hx1,h⟩:=ae h;try dsimp only at h
 refine ACall.mk _ _ rfl (hF _ _ _ (jI hg ht hx1)) (.inl rfl) (nb rfl) ?_;cbv
 cases hb1:x1
 ·rw[aa hb1] at h;cbv;iterate 4 try(rw[hb1];cbv)
  obtain rfl:=Option.some.inj h;exact ARet.mk trivial hX.symm
 rw[ab hb1] at h;cbv;iterate 2 try(rw[hb1];cbv)
 obtain⟨x2,hx2,h⟩:=ah h;try dsimp only at h
 refine ACall.mk _ _ rfl (hF _ _ _ (ez hg ht hx2)) (.inl rfl) (nb rfl) ?_;cbv;iterate 2 try(rw[hb1];cbv)
 cases hb2:x2
 ·rw[aa hb2] at h;cbv;iterate 4 try(rw[hb2];cbv)
  obtain rfl:=Option.some.inj h;exact ARet.mk trivial hX.symm
 rw[ab hb2] at h;cbv;iterate 2 try(rw[hb2];cbv)
 obtain⟨x3,hx3,h⟩:=ah h;try dsimp only at h
 refine ACall.mk _ _ rfl (hF _ _ _ (ez hg ht hx3)) (.inl rfl) (nb rfl) ?_;cbv;iterate 2 try(rw[hb2];cbv)
 cases hb3:x3
 ·rw[aa hb3] at h;cbv;obtain rfl:=Option.some.inj h;exact ARet.mk trivial hX.symm
 rw[ab hb3] at h;cbv
 cases hb4:(eq a1_Kind 1)
 rotate_left
 ·rw[ab hb4] at h;cbv;try(rw[hb4];cbv)
  obtain⟨x4,hx4,h⟩:=ae h;try dsimp only at h
  refine ACall.mk _ _ rfl (hF _ _ _ (iD hg ht hx4)) (.inl rfl) (nb rfl) ?_;cbv;refine AStep.mk (fv ht (ar hg ht _)) ?_;cbv;obtain⟨x5,hx5,h⟩:=ah h;try dsimp only at h
  refine ACall.mk _ _ (by rw[show rd (d_S x4) 0 (dlen (d_S x4))=r_S x4 from iC hg ht (ar hg ht _)];try rfl) (hF _ _ _ (fW hg ht hx5)) (.inr rfl) (nb rfl) ?_
  cbv
  cases hb5:(le 0 x5)
  rotate_left
  ·rw[ab hb5] at h;cbv;iterate 4 try(rw[hb5];cbv)
   obtain rfl:=Option.some.inj h;exact ARet.mk trivial hX.symm
  rw[aa hb5] at h;cbv;iterate 4 try(rw[hb5];cbv)
  obtain rfl:=Option.some.inj h;exact ARet.mk trivial hX.symm
 rw[aa hb4] at h;cbv
 cases hb6:(eq a1_Kind 4)
 rotate_left
 ·rw[ab hb6] at h;cbv;obtain⟨x6,hx6,h⟩:=ae h;try dsimp only at h
  refine ACall.mk _ _ rfl (hF _ _ _ (iD hg ht hx6)) (.inl rfl) (nb rfl) ?_;cbv;refine AStep.mk (fv ht (ar hg ht _)) ?_;cbv;obtain⟨x7,hx7,h⟩:=ah h;try dsimp only at h
  refine ACall.mk _ _ (by rw[show rd (d_S x6) 0 (dlen (d_S x6))=r_S x6 from iC hg ht (ar hg ht _)];try rfl) (hF _ _ _ (fW hg ht hx7)) (.inr rfl) (nb rfl) ?_
  cbv
  cases hb7:(le 0 x7)
  rotate_left
  ·rw[ab hb7] at h;cbv;iterate 4 try(rw[hb7];cbv)
   obtain rfl:=Option.some.inj h;exact ARet.mk trivial hX.symm
  rw[aa hb7] at h;cbv;iterate 4 try(rw[hb7];cbv)
  obtain rfl:=Option.some.inj h;exact ARet.mk trivial hX.symm
 rw[aa hb6] at h;cbv
 cases hb8:(eq a1_Kind 3)
 rotate_left
 ·rw[ab hb8] at h;cbv
  cases hb9:(seq a1_Place s_k0)
  ·rw[aa hb9] at h;cbv;iterate 4 try(rw[hb9];cbv)
   obtain rfl:=Option.some.inj h;exact ARet.mk trivial hX.symm
  rw[ab hb9] at h;cbv;iterate 3 try(rw[hb9];cbv)
  obtain⟨x8,hx8,h⟩:=ae h;try dsimp only at h
  refine ACall.mk _ _ rfl (hF _ _ _ (rJ hg ht hx8)) (.inl rfl) (nb rfl) ?_;cbv;try(rw[hb9];cbv)
  cases hb10:x8
  ·rw[aa hb10] at h;cbv;iterate 7 try(rw[hb10];cbv)
   obtain rfl:=Option.some.inj h;exact ARet.mk trivial hX.symm
  rw[ab hb10] at h;cbv;iterate 5 try(rw[hb10];cbv)
  obtain⟨x9,hx9,h⟩:=ae h;try dsimp only at h
  refine ACall.mk _ _ rfl (hF _ _ _ (gE hg ht hx9)) (.inl rfl) (nb rfl) ?_;cbv;iterate 2 try(rw[hb10];cbv)
  obtain rfl:=Option.some.inj h;exact ARet.mk trivial hX.symm
 rw[aa hb8] at h;cbv
 cases hb11:(eq a1_Kind 2)
 ·rw[aa hb11] at h;cbv;obtain rfl:=Option.some.inj h;exact ARet.mk trivial hX.symm
 rw[ab hb11] at h;cbv
 cases hb12:(seq a1_Place s_k0)
 ·rw[aa hb12] at h;cbv;iterate 4 try(rw[hb12];cbv)
  obtain rfl:=Option.some.inj h;exact ARet.mk trivial hX.symm
 rw[ab hb12] at h;cbv;iterate 3 try(rw[hb12];cbv)
 obtain⟨x10,hx10,h⟩:=ae h;try dsimp only at h
 refine ACall.mk _ _ rfl (hF _ _ _ (rJ hg ht hx10)) (.inl rfl) (nb rfl) ?_;cbv;try(rw[hb12];cbv)
 cases hb13:x10
 ·rw[aa hb13] at h;cbv;iterate 7 try(rw[hb13];cbv)
  obtain rfl:=Option.some.inj h;exact ARet.mk trivial hX.symm
 rw[ab hb13] at h;cbv;iterate 5 try(rw[hb13];cbv)
 obtain⟨x11,hx11,h⟩:=ae h;try dsimp only at h
 refine ACall.mk _ _ rfl (hF _ _ _ (lO hg ht hx11)) (.inl rfl) (nb rfl) ?_;cbv;iterate 2 try(rw[hb13];cbv)
 obtain rfl:=Option.some.inj h;exact ARet.mk trivial hX.symm
def ir35:J:=js [jq 2 (.box 0),jq 4 (.mv (.k (.c (.n 6))))] [1,2] (js [jq 11 (.bsl 6 []),jq 5 (.alloc [.n 6]),jp (.st 1 5 11)] [1,2,5] (.seq (js [jm 12 1,jm 13 1,jq 14 (.len false 13),jq 15 (.mnx false 14 (ki 200)),jq 16 (.sl 6 12 none (some 15)),jq 17 (.len false 16),jm 18 (ki 0)] [2,5,16,17,18] (.bl 0 (js [jb 19 .lss .i 18 17] [2,5,16,17,18,19] (.seq (.cond 19 .skip (.exit 0)) (.seq (.block 1 (js [ja 20 6 16 18,jl 21 6 20,jq 7 (.alloc [.r (.v (.int .i64 0)),.r (.v (.int .i64 0)),.r (.v (.int .i64 0)),.r (.v (.string .empty)),.r (.v (.int .i64 0)),.r (.v (.int .i64 0))]),jp (.st 6 7 21)] [2,5,7,16,17,18] (js [jl 22 3 2,jl 23 6 7,jc 24 91 [22,23]] [2,5,7,16,17,18,24] (.cond 24 (.reg none [jk 25 5,jl 26 6 7,jq 27 (.bsl 6 [26]),jq 28 (.app 6 56 true 25 27),jp (.st 1 5 28)] [2,5,16,17,18]) .skip)))) (.reg none [jb 29 .add .i 18 (ki 1),jm 18 29] [2,5,16,17,18])))))) (js [jk 30 5,jq 31 (.ifc 33 30),jq 32 (.clo true 92 [5]),jq 33 (.sst 79 31 32)] [5] (js [jq 34 (.bsl 6 []),jm 8 34] [5,8] (.seq (js [jk 35 5,jq 36 (.len false 35),jm 37 (ki 0)] [5,8,35,36,37] (.bl 2 (js [jb 38 .lss .i 37 36] [5,8,35,36,37,38] (.seq (.cond 38 .skip (.exit 2)) (.seq (.block 3 (js [jm 39 37,ja 40 6 35 37,jl 41 6 40,jq 10 (.alloc [.r (.v (.int .i64 0)),.r (.v (.int .i64 0)),.r (.v (.int .i64 0)),.r (.v (.string .empty)),.r (.v (.int .i64 0)),.r (.v (.int .i64 0))]),jm 9 39,jp (.st 6 10 41)] [5,8,9,10,35,36,37] (.seq (.reg (some [[],[0],[0,1],[0,1,2],[0,1,2],[0,1,2,4],[0,1,2,3,4,5],[0,1,2,3,4,5,6],[0,1,2],[0,1,2,3,4,5,6,7,8],[0,1,2,3,4,5,6,7,8,9]]) [jm 42 9,jb 43 .eql .i 42 (ki 0),jm 44 43,jv 45 44 (.ld false 1 5),jv 46 44 (.mv 9),jv 47 44 (.bin .sub .i 46 (ki 1)),jv 48 44 (.ia 6 45 47),jv 49 44 (.ld true 6 48),jv 50 44 (.ld true 6 10),jv 51 44 (.eqs true [.i,.i,.i,.s,.i,.i] 49 50),jq 52 (.pick 44 kt 51)] [5,8,10,35,36,37,52]) (.cond 52 (.reg none [jm 53 8,jl 54 6 10,jq 55 (.bsl 6 [54]),jq 56 (.app 6 56 true 53 55),jm 8 56] [5,8,35,36,37]) .skip)))) (.reg none [jb 57 .add .i 37 (ki 1),jm 37 57] [5,8,35,36,37])))))) (js [jm 58 8,jm 4 58] [4] .ret))))))
def rv35:List RV:=[.t 4]
def bH (g:G) (t:TE) (l5:List Scan):Nat→Int→List Scan→Option (List Scan)
 |0,v2,w2=>
  some w2
 |n2+1,v2,w2=>
  gd (((0:Int)≤v2∧v2<(((g.dlen (t.d_Scan l5)):Nat):Int)))<|
  gt l5 (g.nat v2) fun x2=>
  br (g.eq v2 0)
  (
   lP ([(Scan.mk x2.Thing x2.At x2.Kind x2.Place (Trip.mk x2.Trip.Leg x2.Trip.Day))]) fun(l7:List Scan)=>
   gd (((w2.length+l7.length)*56≤70368744177664))<|
   lP (w2++l7) fun(l8:List Scan)=>
   bH g t l5 n2 (g.wrap .i64 (g.add v2 1)) l8)
  (
   gd (((0:Int)≤(g.wrap .i64 (g.sub v2 1))∧(g.wrap .i64 (g.sub v2 1))<(((g.dlen (t.d_Scan l5)):Nat):Int)))<|
   gt l5 (g.nat (g.wrap .i64 (g.sub v2 1))) fun x3=>
   br (g.all [(g.eq x3.Thing x2.Thing),(g.eq x3.At x2.At),(g.eq x3.Kind x2.Kind),(g.seq x3.Place x2.Place),(g.eq x3.Trip.Leg x2.Trip.Leg),(g.eq x3.Trip.Day x2.Trip.Day)])
   (
    bH g t l5 n2 (g.wrap .i64 (g.add v2 1)) w2)
   (
    lP ([(Scan.mk x2.Thing x2.At x2.Kind x2.Place (Trip.mk x2.Trip.Leg x2.Trip.Day))]) fun(l9:List Scan)=>
    gd (((w2.length+l9.length)*56≤70368744177664))<|
    lP (w2++l9) fun(l10:List Scan)=>
    bH g t l5 n2 (g.wrap .i64 (g.add v2 1)) l10))
def bX (g:G) (t:TE) (a0:Network):List Scan→List Scan→Option (List Scan)
 |[],w1=>
  some w1
 |z1::ls1,w1=>
  cl (fB g t a0 (Scan.mk z1.Thing z1.At z1.Kind z1.Place (Trip.mk z1.Trip.Leg z1.Trip.Day))) fun x1=>
  br x1
  (
   lP ([(Scan.mk z1.Thing z1.At z1.Kind z1.Place (Trip.mk z1.Trip.Leg z1.Trip.Day))]) fun(l3:List Scan)=>
   gd (((w1.length+l3.length)*56≤70368744177664))<|
   lP (w1++l3) fun(l4:List Scan)=>
   bX g t a0 ls1 l4)
  (
   bX g t a0 ls1 w1)
def ea (g:G) (t:TE) (a0:Network) (a1:List Scan):Option (List Scan):=
 lP ([]) fun(l1:List Scan)=>
 gd (((0:Int)≤0∧0≤(g.imin (g.llen (t.r_Scan a1)) 200)∧(g.imin (g.llen (t.r_Scan a1)) 200)≤((((t.r_Scan a1).length):Nat):Int)))<|
 lP (List.drop (g.nat 0) (List.take (g.nat (g.imin (g.llen (t.r_Scan a1)) 200)) a1)) fun(l2:List Scan)=>
 cl (bX g t a0 l2 l1) fun y1=>
 cl (nO g t y1) fun(l5:List Scan)=>
 lP ([]) fun(l6:List Scan)=>
 gd (((g.int (g.dlen (t.d_Scan y1)))≤9223372036854775807))<|
 cl (bH g t l5 (ap 0 (g.int (g.dlen (t.d_Scan y1)))) 0 l6) fun y2=>
 some y2
theorem g8 {g:G} {t:TE} {a0:Network} {a1:List Scan} {r:List Scan} (hg:g=G.real) (ht:t=TE.real) (h:ea g t a0 a1=some r):Fn Tryz.prog 35 [.g (Network.rs t a0),.c (.s 6 (t.r_Scan a1))] (.c (.o 6 (t.d_Scan r))):=by
 obtain⟨X,hX⟩:=aC (.c (.o 6 (t.d_Scan r)):X);rw[←hX];refine aA (rvs:=rv35) (j:=ir35) Tryz.func35 rfl (by kernel_rfl) (nb rfl) (by kernel_rfl) af ?_;intro g2 F hg2 hF;obtain rfl:g2=g:=hg2.unique.trans hg.symm;clear hg2;obtain⟨wrap,lt,_,eq,_,_,_,_,_,_,_,_,int,add,_,_,_,seq,_,_,_,llen,_,_,dlen,_,_,_,_,_,_,_,_,all⟩:=g2;obtain⟨_,_,r_Scan,d_Scan,r_Leg,_,r_I64⟩:=t
 obtain⟨a0_Legs,a0_Off,a0_Change⟩:=a0;unfold ea at h;try dsimp only at h
 cbv;obtain⟨l1,hl1,h⟩:=ah h;try dsimp only at h
 refine ANew.mk (d_Scan l1) (dlen (d_Scan l1)) (by rw[←hl1];exact aG hg ht []) (by rw[←hl1];exact ax hg ht []) ?_;cbv;obtain⟨hc1,h⟩:=ak h;refine AStep.mk hc1 ?_;cbv;obtain⟨l2,hl2,h⟩:=ah h;try dsimp only at h
 refine AVal.mk (r_Scan l2) (by rw[←hl2];exact Bt hg ht _ _ _) ?_;cbv;obtain⟨o1,ho1,h⟩:=ae h;try dsimp only at h
 try rw[hg] at ho1
 try rw[ht] at ho1
 refine ABL.mk {p:Nat×Int×List Scan//p.1≤l2.length∧p.2.1=((p.1:Nat):Int)∧bX G.real TE.real (Network.mk a0_Legs a0_Off a0_Change) (List.drop p.1 l2) p.2.2=some o1} (fun⟨⟨k1,v1,w1⟩,_⟩=>({sl:=[(2,.c (.p 0 3 0 0)),(5,.c (.p 1 1 0 0)),(16,.c (.r (.s 6 (r_Scan l2)))),(17,.c (.r (.v (.int .i64 (llen (r_Scan l2)))))),(18,.c (.r (.v (.int .i64 v1))))],tab:=[(0,some (.foc 3 [] [.r (.s 6 (r_Leg a0_Legs)),.r (.s 1 (r_I64 a0_Off)),.r (.v (.int .i64 a0_Change))] [])),(1,some (.foc 1 [] [.f 2 6 0 (dlen (d_Scan w1))] [])),(2,some (.arr 6 (d_Scan w1)))]}:St)) 3 (fun p=>l2.length-p.1.1) ⟨(0,0,l1),Nat.zero_le _,rfl,ho1⟩ (List Scan) (fun y1=>({sl:=[(5,.c (.p 0 1 0 0))],tab:=[(0,some (.foc 1 [] [.f 1 6 0 (dlen (d_Scan y1))] [])),(1,some (.arr 6 (d_Scan y1)))]}:St)) 2 (fun y=>o1=y) ?_ ?_ ?_
 ·refine Wk.of [(0,some 0),(1,some 48),(2,some 32)] rfl rfl ?_ ?_
  ·cbv;all_goals exact⟨⟨_,rfl,rfl⟩,⟨_,rfl,rfl⟩,⟨_,rfl,rfl⟩,⟨_,rfl,rfl⟩,⟨_,rfl,rfl⟩,trivial⟩
  cbv;all_goals exact⟨⟨_,rfl,_,rfl,rfl,rfl,rfl,trivial⟩,⟨_,rfl,_,rfl,rfl,trivial⟩,⟨_,rfl,rfl⟩,trivial⟩
 ·rintro⟨⟨k1,v1,w1⟩,hk1,hi1,h_1⟩ hq1;have hm1:=(hq1.1 16 _ _ rfl);try dsimp only at hk1 hi1 h_1
  clear hq1;cbv
  by_cases hc1_:k1<l2.length
  ·have hb1:lt v1 (llen (r_Scan l2))=true:=jK hg ht hi1 hc1_;have hs1:=nr hg ht hi1 hc1_ hm1;obtain⟨z1,hz1⟩:=aX hc1_;rw[aH hz1] at h_1;rw[bX] at h_1;obtain⟨z1_Thing,z1_At,z1_Kind,z1_Place,⟨z1_Trip_Leg,z1_Trip_Day⟩⟩:=z1;try rw[←hg] at h_1
   try rw[←ht] at h_1
   try dsimp only at h_1
   rw[hb1];cbv;refine AStep.mk (fP hi1) ?_;cbv;refine AGet.mk _ (eV hg ht hi1 hz1) ?_;cbv;obtain⟨x1,hx1,h_1⟩:=ae h_1;try dsimp only at h_1
   refine ACall.mk _ _ rfl (hF _ _ _ (gX hg ht hx1)) (.inl rfl) (nb rfl) ?_;cbv
   cases hb2:x1
   ·rw[aa hb2] at h_1;cbv;try rw[hg] at h_1
    try rw[ht] at h_1
    refine⟨⟨(k1+1,(wrap .i64 (add v1 1)),w1),hc1_,hs1,h_1⟩,Wk.of [(0,some 0),(1,some 1),(2,some 2)] rfl rfl ?_ ?_,bc hc1_⟩
    ·cbv;all_goals exact⟨⟨_,rfl,rfl⟩,⟨_,rfl,rfl⟩,⟨_,rfl,rfl⟩,⟨_,rfl,rfl⟩,⟨_,rfl,rfl⟩,trivial⟩
    cbv;all_goals exact⟨⟨_,rfl,_,rfl,rfl,rfl,rfl,trivial⟩,⟨_,rfl,_,rfl,rfl,trivial⟩,⟨_,rfl,rfl⟩,trivial⟩
   rw[ab hb2] at h_1;cbv;obtain⟨l3,hl3,h_1⟩:=ah h_1;try dsimp only at h_1
   refine ANew.mk (d_Scan l3) (dlen (d_Scan l3)) (by rw[←hl3];exact aG hg ht [(Scan.mk z1_Thing z1_At z1_Kind z1_Place (Trip.mk z1_Trip_Leg z1_Trip_Day))]) (by rw[←hl3];exact ax hg ht [(Scan.mk z1_Thing z1_At z1_Kind z1_Place (Trip.mk z1_Trip_Leg z1_Trip_Day))]) ?_;cbv;obtain⟨hc2,h_1⟩:=ak h_1;refine AStep.mk ⟨⟨rfl,(ac hg ht _)⟩,(au hg ht (ac hg ht _) rfl hc2)⟩ ?_;cbv;obtain⟨l4,hl4,h_1⟩:=ah h_1;try dsimp only at h_1
   refine ANew.mk (d_Scan l4) (dlen (d_Scan l4)) (by rw[←hl4];exact aR hg ht (ac hg ht _) rfl) (by rw[←hl4];exact aJ hg ht (ac hg ht _) rfl) ?_;cbv;try rw[hg] at h_1
   try rw[ht] at h_1
   refine⟨⟨(k1+1,(wrap .i64 (add v1 1)),l4),hc1_,hs1,h_1⟩,Wk.of [(0,some 0),(1,some 1),(2,some 179)] rfl rfl ?_ ?_,bc hc1_⟩
   ·cbv;all_goals exact⟨⟨_,rfl,rfl⟩,⟨_,rfl,rfl⟩,⟨_,rfl,rfl⟩,⟨_,rfl,rfl⟩,⟨_,rfl,rfl⟩,trivial⟩
   cbv;all_goals exact⟨⟨_,rfl,_,rfl,rfl,rfl,rfl,trivial⟩,⟨_,rfl,_,rfl,rfl,trivial⟩,⟨_,rfl,rfl⟩,trivial⟩
  have hb1:lt v1 (llen (r_Scan l2))=false:=jd hg ht hi1 hc1_;rw[List.drop_of_length_le (Nat.le_of_not_lt hc1_)] at h_1;rw[bX] at h_1;try rw[←hg] at h_1
  try rw[←ht] at h_1
  try dsimp only at h_1
  rw[hb1];cbv;refine⟨w1,Wk.of [(0,some 1),(1,some 2)] rfl rfl ?_ ?_,(Option.some.inj h_1).symm⟩
  ·cbv;all_goals exact⟨⟨_,rfl,rfl⟩,trivial⟩
  cbv;all_goals exact⟨⟨_,rfl,_,rfl,rfl,trivial⟩,⟨_,rfl,rfl⟩,trivial⟩
 rintro y1 hy1;replace hy1:=hy1.symm;subst hy1;try dsimp only[lr,lrL,lrp,aZ] at h
 cbv;obtain⟨l5,hl5,h⟩:=ae h;try dsimp only at h
 have hc3:=vu hl5;refine AStep.mk ⟨(ac hg ht _),rfl⟩ ?_;cbv;refine ASst.mk (d_Scan l5) (hF _ _ _ (y5 hg ht hl5)) ?_;cbv;obtain⟨l6,hl6,h⟩:=ah h;try dsimp only at h
 refine ANew.mk (d_Scan l6) (dlen (d_Scan l6)) (by rw[←hl6];exact aG hg ht []) (by rw[←hl6];exact ax hg ht []) ?_;cbv;obtain⟨hB2,h⟩:=ak h;obtain⟨o2,ho2,h⟩:=ae h;try dsimp only at h
 try rw[hg] at ho2
 try rw[ht] at ho2
 refine ABL.mk {p:Nat×Int×List Scan//p.1=ap p.2.1 (int (dlen (d_Scan y1)))∧0≤p.2.1∧bH G.real TE.real l5 p.1 p.2.1 p.2.2=some o2} (fun⟨⟨n2,v2,w2⟩,_⟩=>({sl:=[(5,.c (.p 0 1 0 0)),(8,.c (.f 2 6 0 (dlen (d_Scan w2)))),(35,.c (.f 1 6 0 (dlen (d_Scan l5)))),(36,.c (.r (.v (.int .i64 (int (dlen (d_Scan y1))))))),(37,.c (.r (.v (.int .i64 v2))))],tab:=[(0,some (.foc 1 [] [.f 1 6 0 (dlen (d_Scan l5))] [])),(1,some (.arr 6 (d_Scan l5))),(2,some (.arr 6 (d_Scan w2)))]}:St)) 3 (fun p=>p.1.1) ⟨(ap 0 (int (dlen (d_Scan y1))),0,l6),rfl,Int.le_refl _,ho2⟩ (List Scan) (fun y2=>({sl:=[(8,.c (.f 0 6 0 (dlen (d_Scan y2))))],tab:=[(0,some (.arr 6 (d_Scan y2)))]}:St)) 1 (fun y=>o2=y) ?_ ?_ ?_
 ·refine Wk.of [(0,some 0),(1,some 1),(2,some 66)] rfl rfl ?_ ?_
  ·cbv;all_goals try rw[show(dlen (d_Scan y1))=(dlen (d_Scan l5)) from((tt ht (ac hg ht _) hc3)).trans (ac hg ht _).symm]
   all_goals exact⟨⟨_,rfl,rfl⟩,⟨_,rfl,rfl⟩,⟨_,rfl,rfl⟩,⟨_,rfl,rfl⟩,⟨_,rfl,rfl⟩,trivial⟩
  cbv;all_goals try rw[show(dlen (d_Scan y1))=(dlen (d_Scan l5)) from((tt ht (ac hg ht _) hc3)).trans (ac hg ht _).symm]
  all_goals exact⟨⟨_,rfl,_,rfl,rfl,trivial⟩,⟨_,rfl,rfl⟩,⟨_,rfl,rfl⟩,trivial⟩
 ·rintro⟨⟨n2,v2,w2⟩,hn2,hi2,h_2⟩ hq2;try dsimp only at hn2 hi2 h_2
  clear hq2;cbv;rcases n2 with _|n2
  ·have hb3:lt v2 (int (dlen (d_Scan y1)))=false:=ba hg hn2;rw[bH] at h_2;try rw[←hg] at h_2
   try rw[←ht] at h_2
   try dsimp only at h_2
   rw[hb3];cbv;refine⟨w2,Wk.of [(0,some 2)] rfl rfl ?_ ?_,(Option.some.inj h_2).symm⟩
   ·cbv;all_goals exact⟨⟨_,rfl,rfl⟩,trivial⟩
   cbv;all_goals exact⟨⟨_,rfl,rfl⟩,trivial⟩
  have hb3:lt v2 (int (dlen (d_Scan y1)))=true:=bt hg hn2;have hl2:=cR hn2;have hs2:=bS hg hn2 hi2 hB2 (by decide);rw[bH] at h_2;try rw[←hg] at h_2
  try rw[←ht] at h_2
  try dsimp only at h_2
  rw[hb3];cbv;obtain⟨hc4,h_2⟩:=ak h_2;refine AStep.mk hc4 ?_;cbv;obtain⟨x2,hx2,h_2⟩:=aE h_2;obtain⟨x2_Thing,x2_At,x2_Kind,x2_Place,⟨x2_Trip_Leg,x2_Trip_Day⟩⟩:=x2;try dsimp only at h_2
  refine AGet.mk _ (aO hg ht hx2) ?_;cbv
  cases hb4:(eq v2 0)
  rotate_left
  ·rw[ab hb4] at h_2;cbv;iterate 7 try(rw[hb4];cbv)
   obtain⟨l7,hl7,h_2⟩:=ah h_2;try dsimp only at h_2
   refine ANew.mk (d_Scan l7) (dlen (d_Scan l7)) (by rw[←hl7];exact aG hg ht [(Scan.mk x2_Thing x2_At x2_Kind x2_Place (Trip.mk x2_Trip_Leg x2_Trip_Day))]) (by rw[←hl7];exact ax hg ht [(Scan.mk x2_Thing x2_At x2_Kind x2_Place (Trip.mk x2_Trip_Leg x2_Trip_Day))]) ?_;cbv;obtain⟨hc5,h_2⟩:=ak h_2;refine AStep.mk ⟨⟨rfl,(ac hg ht _)⟩,(au hg ht (ac hg ht _) rfl hc5)⟩ ?_;cbv;obtain⟨l8,hl8,h_2⟩:=ah h_2;try dsimp only at h_2
   refine ANew.mk (d_Scan l8) (dlen (d_Scan l8)) (by rw[←hl8];exact aR hg ht (ac hg ht _) rfl) (by rw[←hl8];exact aJ hg ht (ac hg ht _) rfl) ?_;cbv;try rw[hg] at h_2
   try rw[ht] at h_2
   refine⟨⟨(n2,(wrap .i64 (add v2 1)),l8),hs2.1,hs2.2,h_2⟩,Wk.of [(0,some 0),(1,some 1),(2,some 339)] rfl rfl ?_ ?_,Nat.lt_succ_self _⟩
   ·cbv;all_goals exact⟨⟨_,rfl,rfl⟩,⟨_,rfl,rfl⟩,⟨_,rfl,rfl⟩,⟨_,rfl,rfl⟩,⟨_,rfl,rfl⟩,trivial⟩
   cbv;all_goals exact⟨⟨_,rfl,_,rfl,rfl,trivial⟩,⟨_,rfl,rfl⟩,⟨_,rfl,rfl⟩,trivial⟩
  rw[aa hb4] at h_2;cbv;iterate 3 try(rw[hb4];cbv)
  obtain⟨hc6,h_2⟩:=ak h_2;refine AStep.mk hc6 ?_;cbv;try(rw[hb4];cbv)
  obtain⟨x3,hx3,h_2⟩:=aE h_2;obtain⟨x3_Thing,x3_At,x3_Kind,x3_Place,⟨x3_Trip_Leg,x3_Trip_Day⟩⟩:=x3;try dsimp only at h_2
  refine AGet.mk _ (aO hg ht hx3) ?_;cbv;iterate 3 try(rw[hb4];cbv)
  cases hb5:(all [(eq x3_Thing x2_Thing),(eq x3_At x2_At),(eq x3_Kind x2_Kind),(seq x3_Place x2_Place),(eq x3_Trip_Leg x2_Trip_Leg),(eq x3_Trip_Day x2_Trip_Day)])
  rotate_left
  ·rw[ab hb5] at h_2;cbv;try rw[hg] at h_2
   try rw[ht] at h_2
   refine⟨⟨(n2,(wrap .i64 (add v2 1)),w2),hs2.1,hs2.2,h_2⟩,Wk.of [(0,some 0),(1,some 1),(2,some 2)] rfl rfl ?_ ?_,Nat.lt_succ_self _⟩
   ·cbv;all_goals exact⟨⟨_,rfl,rfl⟩,⟨_,rfl,rfl⟩,⟨_,rfl,rfl⟩,⟨_,rfl,rfl⟩,⟨_,rfl,rfl⟩,trivial⟩
   cbv;all_goals exact⟨⟨_,rfl,_,rfl,rfl,trivial⟩,⟨_,rfl,rfl⟩,⟨_,rfl,rfl⟩,trivial⟩
  rw[aa hb5] at h_2;cbv;obtain⟨l9,hl9,h_2⟩:=ah h_2;try dsimp only at h_2
  refine ANew.mk (d_Scan l9) (dlen (d_Scan l9)) (by rw[←hl9];exact aG hg ht [(Scan.mk x2_Thing x2_At x2_Kind x2_Place (Trip.mk x2_Trip_Leg x2_Trip_Day))]) (by rw[←hl9];exact ax hg ht [(Scan.mk x2_Thing x2_At x2_Kind x2_Place (Trip.mk x2_Trip_Leg x2_Trip_Day))]) ?_;cbv;obtain⟨hc7,h_2⟩:=ak h_2;refine AStep.mk ⟨⟨rfl,(ac hg ht _)⟩,(au hg ht (ac hg ht _) rfl hc7)⟩ ?_;cbv;obtain⟨l10,hl10,h_2⟩:=ah h_2;try dsimp only at h_2
  refine ANew.mk (d_Scan l10) (dlen (d_Scan l10)) (by rw[←hl10];exact aR hg ht (ac hg ht _) rfl) (by rw[←hl10];exact aJ hg ht (ac hg ht _) rfl) ?_;cbv;try rw[hg] at h_2
  try rw[ht] at h_2
  refine⟨⟨(n2,(wrap .i64 (add v2 1)),l10),hs2.1,hs2.2,h_2⟩,Wk.of [(0,some 0),(1,some 1),(2,some 339)] rfl rfl ?_ ?_,Nat.lt_succ_self _⟩
  ·cbv;all_goals exact⟨⟨_,rfl,rfl⟩,⟨_,rfl,rfl⟩,⟨_,rfl,rfl⟩,⟨_,rfl,rfl⟩,⟨_,rfl,rfl⟩,trivial⟩
  cbv;all_goals exact⟨⟨_,rfl,_,rfl,rfl,trivial⟩,⟨_,rfl,rfl⟩,⟨_,rfl,rfl⟩,trivial⟩
 rintro y2 hy2;replace hy2:=hy2.symm;subst hy2;try dsimp only[lr,lrL,lrp,aZ] at h
 cbv;obtain rfl:=Option.some.inj h;exact ARet.mk ⟨rfl,(ac hg ht _)⟩ hX.symm
def ir18:J:=js [jq 3 (.box 0),jq 6 (.mv (.k (.c (.n 6))))] [1,2,3] (js [jq 10 (.bsl 6 []),jm 7 10] [1,2,3,7] (.seq (js [jl 11 3 3,jm 12 1,jc 13 35 [11,12],jq 14 (.len false 13),jm 15 (ki 0)] [2,7,13,14,15] (.bl 0 (js [jb 16 .lss .i 15 14] [2,7,13,14,15,16] (.seq (.cond 16 .skip (.exit 0)) (.seq (.block 1 (js [ja 17 6 13 15,jl 18 6 17,jq 9 (.alloc [.r (.v (.int .i64 0)),.r (.v (.int .i64 0)),.r (.v (.int .i64 0)),.r (.v (.string .empty)),.r (.v (.int .i64 0)),.r (.v (.int .i64 0))]),jp (.st 6 9 18)] [2,7,9,13,14,15] (js [jf 19 0 9,jk 20 19,jm 21 2,jb 22 .eql .i 20 21] [2,7,9,13,14,15,22] (.cond 22 (.reg none [jm 23 7,jl 24 6 9,jq 25 (.bsl 6 [24]),jq 26 (.app 6 56 true 23 25),jm 7 26] [2,7,13,14,15]) .skip)))) (.reg none [jb 27 .add .i 15 (ki 1),jm 15 27] [2,7,13,14,15])))))) (js [jm 28 7,jm 6 28] [6] .ret)))
def rv18:List RV:=[.t 6]
def bK (g:G) (t:TE) (a2:Int) (x1:List Scan):Nat→Int→List Scan→Option (List Scan)
 |0,v1,w1=>
  some w1
 |n1+1,v1,w1=>
  gt x1 (g.nat v1) fun x2=>
  br (g.eq x2.Thing a2)
  (
   lP ([(Scan.mk x2.Thing x2.At x2.Kind x2.Place (Trip.mk x2.Trip.Leg x2.Trip.Day))]) fun(l2:List Scan)=>
   gd (((w1.length+l2.length)*56≤70368744177664))<|
   lP (w1++l2) fun(l3:List Scan)=>
   bK g t a2 x1 n1 (g.wrap .i64 (g.add v1 1)) l3)
  (
   bK g t a2 x1 n1 (g.wrap .i64 (g.add v1 1)) w1)
def d7 (g:G) (t:TE) (a0:Network) (a1:List Scan) (a2:Int):Option (List Scan):=
 lP ([]) fun(l1:List Scan)=>
 cl (ea g t a0 a1) fun x1=>
 gd (((g.int (g.dlen (t.d_Scan x1)))≤9223372036854775807))<|
 cl (bK g t a2 x1 (ap 0 (g.int (g.dlen (t.d_Scan x1)))) 0 l1) fun y1=>
 some y1
theorem hO {g:G} {t:TE} {a0:Network} {a1:List Scan} {a2:Int} {r:List Scan} (hg:g=G.real) (ht:t=TE.real) (h:d7 g t a0 a1 a2=some r):Fn Tryz.prog 18 [.g (Network.rs t a0),.c (.s 6 (t.r_Scan a1)),.c (.v (.int .i64 a2))] (.c (.o 6 (t.d_Scan r))):=by
 obtain⟨X,hX⟩:=aC (.c (.o 6 (t.d_Scan r)):X);rw[←hX];refine aA (rvs:=rv18) (j:=ir18) Tryz.func18 rfl (by kernel_rfl) (nb rfl) (by kernel_rfl) af ?_;intro g2 F hg2 hF;obtain rfl:g2=g:=hg2.unique.trans hg.symm;clear hg2;obtain⟨wrap,lt,_,eq,_,_,_,_,_,_,_,_,int,add,_,_,_,_,_,_,_,_,_,_,dlen⟩:=g2;obtain⟨_,_,_,d_Scan⟩:=t
 obtain⟨a0_Legs,a0_Off,a0_Change⟩:=a0;unfold d7 at h;try dsimp only at h
 cbv;obtain⟨l1,hl1,h⟩:=ah h;try dsimp only at h
 refine ANew.mk (d_Scan l1) (dlen (d_Scan l1)) (by rw[←hl1];exact aG hg ht []) (by rw[←hl1];exact ax hg ht []) ?_;cbv;obtain⟨x1,hx1,h⟩:=ae h;try dsimp only at h
 refine ACall.mk _ _ rfl (hF _ _ _ (g8 hg ht hx1)) (.inl rfl) (nb rfl) ?_;cbv;obtain⟨hB1,h⟩:=ak h;obtain⟨o1,ho1,h⟩:=ae h;try dsimp only at h
 try rw[hg] at ho1
 try rw[ht] at ho1
 refine ABL.mk {p:Nat×Int×List Scan//p.1=ap p.2.1 (int (dlen (d_Scan x1)))∧0≤p.2.1∧bK G.real TE.real a2 x1 p.1 p.2.1 p.2.2=some o1} (fun⟨⟨n1,v1,w1⟩,_⟩=>({sl:=[(2,.c (.r (.v (.int .i64 a2)))),(7,.c (.f 0 6 0 (dlen (d_Scan w1)))),(13,.c (.f 1 6 0 (dlen (d_Scan x1)))),(14,.c (.r (.v (.int .i64 (int (dlen (d_Scan x1))))))),(15,.c (.r (.v (.int .i64 v1))))],tab:=[(0,some (.arr 6 (d_Scan w1))),(1,some (.arr 6 (d_Scan x1)))]}:St)) 2 (fun p=>p.1.1) ⟨(ap 0 (int (dlen (d_Scan x1))),0,l1),rfl,Int.le_refl _,ho1⟩ (List Scan) (fun y1=>({sl:=[(7,.c (.f 0 6 0 (dlen (d_Scan y1))))],tab:=[(0,some (.arr 6 (d_Scan y1)))]}:St)) 1 (fun y=>o1=y) ?_ ?_ ?_
 ·refine Wk.of [(0,some 32),(1,some 96)] rfl rfl ?_ ?_
  ·cbv;all_goals exact⟨⟨_,rfl,rfl⟩,⟨_,rfl,rfl⟩,⟨_,rfl,rfl⟩,⟨_,rfl,rfl⟩,⟨_,rfl,rfl⟩,trivial⟩
  cbv;all_goals exact⟨⟨_,rfl,rfl⟩,⟨_,rfl,rfl⟩,trivial⟩
 ·rintro⟨⟨n1,v1,w1⟩,hn1,hi1,h_1⟩ hq1;try dsimp only at hn1 hi1 h_1
  clear hq1;cbv;rcases n1 with _|n1
  ·have hb1:lt v1 (int (dlen (d_Scan x1)))=false:=ba hg hn1;rw[bK] at h_1;try rw[←hg] at h_1
   try rw[←ht] at h_1
   try dsimp only at h_1
   rw[hb1];cbv;refine⟨w1,Wk.of [(0,some 0)] rfl rfl ?_ ?_,(Option.some.inj h_1).symm⟩
   ·cbv;all_goals exact⟨⟨_,rfl,rfl⟩,trivial⟩
   cbv;all_goals exact⟨⟨_,rfl,rfl⟩,trivial⟩
  have hb1:lt v1 (int (dlen (d_Scan x1)))=true:=bt hg hn1;have hl1:=cR hn1;have hs1:=bS hg hn1 hi1 hB1 (by decide);rw[bK] at h_1;try rw[←hg] at h_1
  try rw[←ht] at h_1
  try dsimp only at h_1
  rw[hb1];cbv;refine AStep.mk (di hg hi1 hl1) ?_;cbv;obtain⟨x2,hx2,h_1⟩:=aE h_1;obtain⟨x2_Thing,x2_At,x2_Kind,x2_Place,⟨x2_Trip_Leg,x2_Trip_Day⟩⟩:=x2;try dsimp only at h_1
  refine AGet.mk _ (aO hg ht hx2) ?_;cbv
  cases hb2:(eq x2_Thing a2)
  ·rw[aa hb2] at h_1;cbv;try rw[hg] at h_1
   try rw[ht] at h_1
   refine⟨⟨(n1,(wrap .i64 (add v1 1)),w1),hs1.1,hs1.2,h_1⟩,Wk.of [(0,some 0),(1,some 1)] rfl rfl ?_ ?_,Nat.lt_succ_self _⟩
   ·cbv;all_goals exact⟨⟨_,rfl,rfl⟩,⟨_,rfl,rfl⟩,⟨_,rfl,rfl⟩,⟨_,rfl,rfl⟩,⟨_,rfl,rfl⟩,trivial⟩
   cbv;all_goals exact⟨⟨_,rfl,rfl⟩,⟨_,rfl,rfl⟩,trivial⟩
  rw[ab hb2] at h_1;cbv;obtain⟨l2,hl2,h_1⟩:=ah h_1;try dsimp only at h_1
  refine ANew.mk (d_Scan l2) (dlen (d_Scan l2)) (by rw[←hl2];exact aG hg ht [(Scan.mk x2_Thing x2_At x2_Kind x2_Place (Trip.mk x2_Trip_Leg x2_Trip_Day))]) (by rw[←hl2];exact ax hg ht [(Scan.mk x2_Thing x2_At x2_Kind x2_Place (Trip.mk x2_Trip_Leg x2_Trip_Day))]) ?_;cbv;obtain⟨hc1,h_1⟩:=ak h_1;refine AStep.mk ⟨⟨rfl,(ac hg ht _)⟩,(au hg ht (ac hg ht _) rfl hc1)⟩ ?_;cbv;obtain⟨l3,hl3,h_1⟩:=ah h_1;try dsimp only at h_1
  refine ANew.mk (d_Scan l3) (dlen (d_Scan l3)) (by rw[←hl3];exact aR hg ht (ac hg ht _) rfl) (by rw[←hl3];exact aJ hg ht (ac hg ht _) rfl) ?_;cbv;try rw[hg] at h_1
  try rw[ht] at h_1
  refine⟨⟨(n1,(wrap .i64 (add v1 1)),l3),hs1.1,hs1.2,h_1⟩,Wk.of [(0,some 194),(1,some 1)] rfl rfl ?_ ?_,Nat.lt_succ_self _⟩
  ·cbv;all_goals exact⟨⟨_,rfl,rfl⟩,⟨_,rfl,rfl⟩,⟨_,rfl,rfl⟩,⟨_,rfl,rfl⟩,⟨_,rfl,rfl⟩,trivial⟩
  cbv;all_goals exact⟨⟨_,rfl,rfl⟩,⟨_,rfl,rfl⟩,trivial⟩
 rintro y1 hy1;replace hy1:=hy1.symm;subst hy1;try dsimp only[lr,lrL,lrp,aZ] at h
 cbv;obtain rfl:=Option.some.inj h;exact ARet.mk ⟨rfl,(ac hg ht _)⟩ hX.symm
def HJ:J:=js [jq 3 (.box 0),jq 6 (.alloc [.r (.v (.int .i64 0)),.r (.v (.int .i64 0))]),jm 7 kf] [1,2,3,6] (.seq (js [jm 8 (ki 0)] [1,2,3,6,8] (.bl 0 (.seq (js [jm 10 8,jb 11 .leq .i 10 (ki 60)] [1,2,3,6,8,11] (.cond 11 .skip (.exit 0))) (.seq (.block 1 (js [jm 14 1,jm 15 8,jq 16 (.bld [.r (.v (.int .i64 0)),.r (.v (.int .i64 0))] [(0,1,14),(1,1,15)]),jq 9 (.alloc [.r (.v (.int .i64 0)),.r (.v (.int .i64 0))]),jp (.st 2 9 16)] [1,2,3,6,8,9] (js [jl 17 3 3,jm 18 1,jm 19 8,jc 20 100 [17,18,19],jm 21 20,ju 22 21 (.ld true 3 3),ju 23 21 (.ld true 2 9),ju 24 21 (.call 85 true [22,23]),ju 25 21 (.mv 2),ju 26 21 (.bin .geq .i 24 25),jq 27 (.pick 21 26 kf)] [1,2,3,6,8,9,27] (.cond 27 (js [jl 28 2 9,jp (.st 2 6 28),jm 7 kt] [6,7] .ret) .skip)))) (.reg none [jm 12 8,jb 13 .add .i 12 (ki 1),jm 8 13] [1,2,3,6,8]))))) (js [jq 29 (.bld [.r (.v (.int .i64 0)),.r (.v (.int .i64 0))] []),jp (.st 2 6 29),jm 7 kf] [6,7] .ret))
def Gg:List RV:=[.c 6 true 2,.t 7]
def fo (g:G) (t:TE) (a0:Network) (a1:Int) (a2:Int):Nat→Int→Option (LR (Trip×Bool) Unit)
 |0,v1=>
  some (LR.out ())
 |n1+1,v1=>
  cl (lK g t a0 a1 v1) fun x1=>
  br x1
  (
   cl (fA g t a0 (Trip.mk a1 v1)) fun x2=>
   br (g.le a2 x2)
   (
    some (LR.ret (((Trip.mk a1 v1),true))))
   (
    fo g t a0 a1 a2 n1 (g.wrap .i64 (g.add v1 1))))
  (
   fo g t a0 a1 a2 n1 (g.wrap .i64 (g.add v1 1)))
def sh (g:G) (t:TE) (a0:Network) (a1:Int) (a2:Int):Option (Trip×Bool):=
 cl (fo g t a0 a1 a2 (eK 0 60) 0) fun o1=>lr o1 fun y1=>
 some (((Trip.mk 0 0),false))
theorem BS {g:G} {t:TE} {a0:Network} {a1:Int} {a2:Int} {r:Trip×Bool} (hg:g=G.real) (ht:t=TE.real) (h:sh g t a0 a1 a2=some r):Fn Tryz.prog 112 [.g (Network.rs t a0),.c (.v (.int .i64 a1)),.c (.v (.int .i64 a2))] (.u [.g (Trip.ds t r.1),.c (.r (.v (.bool r.2)))]):=by
 obtain⟨X,hX⟩:=aC (.u [.g (Trip.ds t r.1),.c (.r (.v (.bool r.2)))]:X);rw[←hX];refine aA (rvs:=Gg) (j:=HJ) Tryz.func112 rfl (by kernel_rfl) (nb rfl) (by kernel_rfl) af ?_;intro g2 F hg2 hF;obtain rfl:g2=g:=hg2.unique.trans hg.symm;clear hg2;obtain⟨wrap,_,le,_,_,_,_,_,_,_,_,_,_,add⟩:=g2;obtain⟨_,_,_,_,r_Leg,_,r_I64⟩:=t
 obtain⟨a0_Legs,a0_Off,a0_Change⟩:=a0;unfold sh at h;try dsimp only at h
 cbv;obtain⟨o1,ho1,h⟩:=ae h;try dsimp only at h
 try rw[hg] at ho1
 try rw[ht] at ho1
 refine ABL.mk {p:Nat×Int//p.1=eK p.2 60∧0≤p.2∧fo G.real TE.real (Network.mk a0_Legs a0_Off a0_Change) a1 a2 p.1 p.2=some o1} (fun⟨⟨n1,v1⟩,_⟩=>({sl:=[(1,.c (.r (.v (.int .i64 a1)))),(2,.c (.r (.v (.int .i64 a2)))),(3,.c (.p 0 3 0 0)),(6,.c (.p 1 2 0 0)),(8,.c (.r (.v (.int .i64 v1))))],tab:=[(0,some (.foc 3 [] [.r (.s 6 (r_Leg a0_Legs)),.r (.s 1 (r_I64 a0_Off)),.r (.v (.int .i64 a0_Change))] [])),(1,some (.foc 2 [] [.r (.v (.int .i64 0)),.r (.v (.int .i64 0))] []))]}:St)) 2 (fun p=>p.1.1) ⟨(eK 0 60,0),rfl,Int.le_refl _,ho1⟩ (Unit) (fun _=>({sl:=[(6,.c (.p 0 2 0 0))],tab:=[(0,some (.foc 2 [] [.r (.v (.int .i64 0)),.r (.v (.int .i64 0))] []))]}:St)) 1 (fun y=>o1=LR.out y) ?_ ?_ ?_
 ·refine Wk.of [(0,some 0),(1,some 16)] rfl rfl ?_ ?_
  ·cbv;all_goals exact⟨⟨_,rfl,rfl⟩,⟨_,rfl,rfl⟩,⟨_,rfl,rfl⟩,⟨_,rfl,rfl⟩,⟨_,rfl,rfl⟩,trivial⟩
  cbv;all_goals exact⟨⟨_,rfl,_,rfl,rfl,rfl,rfl,trivial⟩,⟨_,rfl,_,rfl,rfl,rfl,trivial⟩,trivial⟩
 ·rintro⟨⟨n1,v1⟩,hn1,hi1,h_1⟩ hq1;try dsimp only at hn1 hi1 h_1
  clear hq1;cbv;rcases n1 with _|n1
  ·have hb1:le v1 60=false:=oR hg hn1;rw[fo] at h_1;try rw[←hg] at h_1
   try rw[←ht] at h_1
   try dsimp only at h_1
   rw[hb1];cbv;refine⟨(),Wk.of [(0,some 1)] rfl rfl ?_ ?_,(Option.some.inj h_1).symm⟩
   ·cbv;all_goals exact⟨⟨_,rfl,rfl⟩,trivial⟩
   cbv;all_goals exact⟨⟨_,rfl,_,rfl,rfl,rfl,trivial⟩,trivial⟩
  have hb1:le v1 60=true:=sB hg hn1;have hl1:=yR hn1;have hs1:=uE hg hn1 hi1 (by decide) (by decide);rw[fo] at h_1;try rw[←hg] at h_1
  try rw[←ht] at h_1
  try dsimp only at h_1
  rw[hb1];cbv;obtain⟨x1,hx1,h_1⟩:=ae h_1;try dsimp only at h_1
  refine ACall.mk _ _ rfl (hF _ _ _ (rC hg ht hx1)) (.inl rfl) (nb rfl) ?_;cbv
  cases hb2:x1
  ·rw[aa hb2] at h_1;cbv;iterate 5 try(rw[hb2];cbv)
   try rw[hg] at h_1
   try rw[ht] at h_1
   refine⟨⟨(n1,(wrap .i64 (add v1 1))),hs1.1,hs1.2,h_1⟩,Wk.of [(0,some 0),(1,some 1)] rfl rfl ?_ ?_,Nat.lt_succ_self _⟩
   ·cbv;all_goals exact⟨⟨_,rfl,rfl⟩,⟨_,rfl,rfl⟩,⟨_,rfl,rfl⟩,⟨_,rfl,rfl⟩,⟨_,rfl,rfl⟩,trivial⟩
   cbv;all_goals exact⟨⟨_,rfl,_,rfl,rfl,rfl,rfl,trivial⟩,⟨_,rfl,_,rfl,rfl,rfl,trivial⟩,trivial⟩
  rw[ab hb2] at h_1;cbv;iterate 2 try(rw[hb2];cbv)
  obtain⟨x2,hx2,h_1⟩:=ae h_1;try dsimp only at h_1
  refine ACall.mk _ _ rfl (hF _ _ _ (gE hg ht hx2)) (.inl rfl) (nb rfl) ?_;cbv;iterate 3 try(rw[hb2];cbv)
  cases hb3:(le a2 x2)
  rotate_left
  ·rw[ab hb3] at h_1;cbv;obtain rfl:=Option.some.inj h_1;try dsimp only[lr,lrL,lrp,aZ] at h
   obtain rfl:=Option.some.inj h;exact ARet.mk trivial hX.symm
  rw[aa hb3] at h_1;cbv;try rw[hg] at h_1
  try rw[ht] at h_1
  refine⟨⟨(n1,(wrap .i64 (add v1 1))),hs1.1,hs1.2,h_1⟩,Wk.of [(0,some 0),(1,some 1)] rfl rfl ?_ ?_,Nat.lt_succ_self _⟩
  ·cbv;all_goals exact⟨⟨_,rfl,rfl⟩,⟨_,rfl,rfl⟩,⟨_,rfl,rfl⟩,⟨_,rfl,rfl⟩,⟨_,rfl,rfl⟩,trivial⟩
  cbv;all_goals exact⟨⟨_,rfl,_,rfl,rfl,rfl,rfl,trivial⟩,⟨_,rfl,_,rfl,rfl,rfl,trivial⟩,trivial⟩
 rintro _ hy1;replace hy1:=hy1.symm;subst hy1;try dsimp only[lr,lrL,lrp,aZ] at h
 cbv;obtain rfl:=Option.some.inj h;exact ARet.mk trivial hX.symm
def Hw:J:=js [jq 5 (.alloc [.r (.v (.int .i64 0)),.r (.v (.int .i64 0))]),jm 6 kf] [0,1,2,5] (js [jl 10 3 2,jm 11 0,jm 12 1,jc 13 112 [10,11,12],jm 9 13,jq 14 (.ext 0 9),jq 15 (.ext 1 9),jq 7 (.alloc [.r (.v (.int .i64 0)),.r (.v (.int .i64 0))]),jp (.st 2 7 14),jm 8 15] [5,7,8] (js [jl 16 2 7,jm 17 8,jp (.st 2 5 16),jm 6 17] [5,6] .ret))
def G7:List RV:=[.c 5 true 2,.t 6]
def I_nextOf_1 (g:G) (t:TE) (a0:Int) (a1:Int) (a2:Network):Option (Trip×Bool):=
 cl (sh g t a2 a0 a1) fun x1=>
 some (((Trip.mk x1.1.Leg x1.1.Day),x1.2))
theorem uS {g:G} {t:TE} {a0:Int} {a1:Int} {a2:Network} {r:Trip×Bool} (hg:g=G.real) (ht:t=TE.real) (h:I_nextOf_1 g t a0 a1 a2=some r):Fn Tryz.prog 111 [.c (.v (.int .i64 a0)),.c (.v (.int .i64 a1)),.q (Network.rs t a2)] (.u [.g (Trip.ds t r.1),.c (.r (.v (.bool r.2)))]):=by
 obtain⟨X,hX⟩:=aC (.u [.g (Trip.ds t r.1),.c (.r (.v (.bool r.2)))]:X);rw[←hX];refine aA (rvs:=G7) (j:=Hw) Tryz.func111 rfl (by kernel_rfl) (nb rfl) (by kernel_rfl) af ?_;intro g2 F hg2 hF;obtain rfl:g2=g:=hg2.unique.trans hg.symm;clear hg2;obtain⟨_⟩:=g2;obtain⟨_⟩:=t
 obtain⟨a2_Legs,a2_Off,a2_Change⟩:=a2;unfold I_nextOf_1 at h;try dsimp only at h
 cbv;obtain⟨x1,hx1,h⟩:=ae h;obtain⟨⟨x1_1_Leg,x1_1_Day⟩,x1_2⟩:=x1;try dsimp only at h
 refine ACall.mk _ _ rfl (hF _ _ _ (BS hg ht hx1)) (.inl rfl) (nb rfl) ?_;cbv;obtain rfl:=Option.some.inj h;exact ARet.mk trivial hX.symm
def ir56:J:=js [jq 1 (.box 0),jq 2 (.mv (.k (.c .un)))] [1] (js [jq 3 (.clo false 111 [1]),jm 2 3] [2] .ret)
def rv56:List RV:=[.t 2]
def jW (g:G) (t:TE) (a0:Network):Fd:=
 (Fd.I_nextOf_1 a0)
theorem yP {g:G} {t:TE} {a0:Network} {r:Fd} (hg:g=G.real) (ht:t=TE.real) (h:jW g t a0=r):Fn Tryz.prog 56 [.g (Network.rs t a0)] (.c (.r (t.r_Fd r))):=by
 obtain⟨X,hX⟩:=aC (.c (.r (t.r_Fd r)):X);rw[←hX];refine aA (rvs:=rv56) (j:=ir56) Tryz.func56 rfl (by kernel_rfl) (nb rfl) (by kernel_rfl) af ?_;intro g2 F hg2 hF;obtain rfl:g2=g:=hg2.unique.trans hg.symm;clear hg2;obtain⟨_⟩:=g2;obtain⟨_,_,_,_,_,_,_,_,_,_,_,_,_,_,_,_,r_Fd⟩:=t
 obtain⟨a0_Legs,a0_Off,a0_Change⟩:=a0;unfold jW at h;try dsimp only at h
 cbv;refine AClo.mk (r_Fd (Fd.I_nextOf_1 (Network.mk a0_Legs a0_Off a0_Change))) (lC ht (Network.mk a0_Legs a0_Off a0_Change)) ?_;cbv;subst h;exact ARet.mk trivial hX.symm
def Gd:J:=js [jq 3 (.box 0),jm 6 (ki 0)] [1,2,3] (.seq (js [jm 7 2] [1,3,7] (.cond 7 (js [jm 8 1,jm 6 8] [6] .ret) .skip)) (js [jm 9 1,jf 10 2 3,jk 11 10,jb 12 .add .i 9 11,jm 6 12] [6] .ret))
def GP:List RV:=[.t 6]
def ge (g:G) (t:TE) (a0:Network) (a1:Int) (a2:Bool):Int:=
 br a2
 (
  a1)
 (
  (g.wrap .i64 (g.add a1 a0.Change)))
theorem w6 {g:G} {t:TE} {a0:Network} {a1:Int} {a2:Bool} {r:Int} (hg:g=G.real) (ht:t=TE.real) (h:ge g t a0 a1 a2=r):Fn Tryz.prog 149 [.g (Network.rs t a0),.c (.v (.int .i64 a1)),.c (.v (.bool a2))] (.c (.r (.v (.int .i64 r)))):=by
 obtain⟨X,hX⟩:=aC (.c (.r (.v (.int .i64 r))):X);rw[←hX];refine aA (rvs:=GP) (j:=Gd) Tryz.func149 rfl (by kernel_rfl) (nb rfl) (by kernel_rfl) af ?_;intro g2 F hg2 hF;obtain rfl:g2=g:=hg2.unique.trans hg.symm;clear hg2;obtain⟨_⟩:=g2;obtain⟨_⟩:=t
 obtain⟨a0_Legs,a0_Off,a0_Change⟩:=a0;unfold ge at h;try dsimp only at h
 cbv
 cases hb1:a2
 rotate_left
 ·rw[ab hb1] at h;cbv;subst h;exact ARet.mk trivial hX.symm
 rw[aa hb1] at h;cbv;subst h;exact ARet.mk trivial hX.symm
def ir77:J:=js [jq 3 (.box 1),jm 4 (ki 0)] [0,3] (js [jm 5 (ki 0)] [0,3,5] (.seq (js [jm 8 0,jq 9 (.len false 8),jm 10 (ki 0)] [3,5,8,9,10] (.bl 0 (js [jb 11 .lss .i 10 9] [3,5,8,9,10,11] (.seq (.cond 11 .skip (.exit 0)) (.seq (.block 1 (js [ja 12 4 8 10,jl 13 4 12,jq 7 (.alloc [.r (.v (.int .i64 0)),.r (.v (.int .i64 0)),.r (.v (.int .i64 0)),.r (.v (.int .i64 0))]),jp (.st 4 7 13)] [3,5,7,8,9,10] (js [jf 14 1 7,jl 15 2 14,jl 16 2 3,jq 17 (.eqs false [.i,.i] 15 16)] [3,5,7,8,9,10,17] (.cond 17 (.reg none [jm 18 5,jf 19 3 7,jk 20 19,jb 21 .add .i 18 20,jm 5 21] [3,5,8,9,10]) .skip)))) (.reg none [jb 22 .add .i 10 (ki 1),jm 10 22] [3,5,8,9,10])))))) (js [jm 23 5,jm 4 23] [4] .ret)))
def rv77:List RV:=[.t 4]
def gf (g:G) (t:TE) (a1:Trip):List Booking→Int→Int
 |[],v1=>
  v1
 |z1::ls1,v1=>
  br (g.all [(g.eq z1.Trip.Leg a1.Leg),(g.eq z1.Trip.Day a1.Day)])
  (
   gf g t a1 ls1 (g.wrap .i64 (g.add v1 z1.Weight)))
  (
   gf g t a1 ls1 v1)
def rB (g:G) (t:TE) (a0:List Booking) (a1:Trip):Int:=
 lP (gf g t a1 a0 0) fun y1=>
 y1
theorem yp {g:G} {t:TE} {a0:List Booking} {a1:Trip} {r:Int} (hg:g=G.real) (ht:t=TE.real) (h:rB g t a0 a1=r):Fn Tryz.prog 77 [.c (.s 4 (t.r_Booking a0)),.g (Trip.rs t a1)] (.c (.r (.v (.int .i64 r)))):=by
 obtain⟨X,hX⟩:=aC (.c (.r (.v (.int .i64 r))):X);rw[←hX];refine aA (rvs:=rv77) (j:=ir77) Tryz.func77 rfl (by kernel_rfl) (nb rfl) (by kernel_rfl) af ?_;intro g2 F hg2 hF;obtain rfl:g2=g:=hg2.unique.trans hg.symm;clear hg2;obtain⟨wrap,lt,_,eq,_,_,_,_,_,_,_,_,_,add,_,_,_,_,_,_,_,llen,_,_,_,_,_,_,_,_,_,_,_,all⟩:=g2;obtain⟨_,_,_,_,_,_,_,_,_,_,r_Booking⟩:=t
 obtain⟨a1_Leg,a1_Day⟩:=a1;unfold rB at h;try dsimp only at h
 cbv;obtain⟨o1,ho1,h⟩:=ah h;try dsimp only at h
 try rw[hg] at ho1
 try rw[ht] at ho1
 refine ABL.mk {p:Nat×Int×Int//p.1≤a0.length∧p.2.1=((p.1:Nat):Int)∧gf G.real TE.real (Trip.mk a1_Leg a1_Day) (List.drop p.1 a0) p.2.2=o1} (fun⟨⟨k1,v2,v1⟩,_⟩=>({sl:=[(3,.c (.p 0 2 0 0)),(5,.c (.r (.v (.int .i64 v1)))),(8,.c (.r (.s 4 (r_Booking a0)))),(9,.c (.r (.v (.int .i64 (llen (r_Booking a0)))))),(10,.c (.r (.v (.int .i64 v2))))],tab:=[(0,some (.foc 2 [] [.r (.v (.int .i64 a1_Leg)),.r (.v (.int .i64 a1_Day))] []))]}:St)) 1 (fun p=>a0.length-p.1.1) ⟨(0,0,0),Nat.zero_le _,rfl,ho1⟩ (Int) (fun y1=>({sl:=[(5,.c (.r (.v (.int .i64 y1))))],tab:=[]}:St)) 0 (fun y=>o1=y) ?_ ?_ ?_
 ·refine Wk.of [(0,some 0)] rfl rfl ?_ ?_
  ·cbv;all_goals exact⟨⟨_,rfl,rfl⟩,⟨_,rfl,rfl⟩,⟨_,rfl,rfl⟩,⟨_,rfl,rfl⟩,⟨_,rfl,rfl⟩,trivial⟩
  cbv;all_goals exact⟨⟨_,rfl,_,rfl,rfl,rfl,trivial⟩,trivial⟩
 ·rintro⟨⟨k1,v2,v1⟩,hk1,hi1,h_1⟩ hq1;have hm1:=(hq1.1 8 _ _ rfl);try dsimp only at hk1 hi1 h_1
  clear hq1;cbv
  by_cases hc1_:k1<a0.length
  ·have hb1:lt v2 (llen (r_Booking a0))=true:=oQ hg ht hi1 hc1_;have hs1:=sZ hg ht hi1 hc1_ hm1;obtain⟨z1,hz1⟩:=aX hc1_;rw[aH hz1] at h_1;rw[gf] at h_1;obtain⟨z1_Thing,⟨z1_Trip_Leg,z1_Trip_Day⟩,z1_Weight⟩:=z1;try rw[←hg] at h_1
   try rw[←ht] at h_1
   try dsimp only at h_1
   rw[hb1];cbv;refine AStep.mk (fP hi1) ?_;cbv;refine AGet.mk _ (rD hg ht hi1 hz1) ?_;cbv
   cases hb2:(all [(eq z1_Trip_Leg a1_Leg),(eq z1_Trip_Day a1_Day)])
   ·rw[aa hb2] at h_1;cbv;try rw[hg] at h_1
    try rw[ht] at h_1
    refine⟨⟨(k1+1,(wrap .i64 (add v2 1)),v1),hc1_,hs1,h_1⟩,Wk.of [(0,some 0)] rfl rfl ?_ ?_,bc hc1_⟩
    ·cbv;all_goals exact⟨⟨_,rfl,rfl⟩,⟨_,rfl,rfl⟩,⟨_,rfl,rfl⟩,⟨_,rfl,rfl⟩,⟨_,rfl,rfl⟩,trivial⟩
    cbv;all_goals exact⟨⟨_,rfl,_,rfl,rfl,rfl,trivial⟩,trivial⟩
   rw[ab hb2] at h_1;cbv;try rw[hg] at h_1
   try rw[ht] at h_1
   refine⟨⟨(k1+1,(wrap .i64 (add v2 1)),(wrap .i64 (add v1 z1_Weight))),hc1_,hs1,h_1⟩,Wk.of [(0,some 0)] rfl rfl ?_ ?_,bc hc1_⟩
   ·cbv;all_goals exact⟨⟨_,rfl,rfl⟩,⟨_,rfl,rfl⟩,⟨_,rfl,rfl⟩,⟨_,rfl,rfl⟩,⟨_,rfl,rfl⟩,trivial⟩
   cbv;all_goals exact⟨⟨_,rfl,_,rfl,rfl,rfl,trivial⟩,trivial⟩
  have hb1:lt v2 (llen (r_Booking a0))=false:=nW hg ht hi1 hc1_;rw[List.drop_of_length_le (Nat.le_of_not_lt hc1_)] at h_1;rw[gf] at h_1;try rw[←hg] at h_1
  try rw[←ht] at h_1
  try dsimp only at h_1
  rw[hb1];cbv;refine⟨v1,Wk.of [] rfl rfl ?_ ?_,h_1.symm⟩
  ·cbv;all_goals exact⟨⟨_,rfl,rfl⟩,trivial⟩
  cbv;all_goals exact trivial
 rintro y1 hy1;replace hy1:=hy1.symm;subst hy1;try dsimp only[lr,lrL,lrp,aZ] at h
 cbv;subst h;exact ARet.mk trivial hX.symm
def G9:J:=js [jq 3 (.box 1),jm 4 kf] [0,3] (.seq (js [jm 7 0,jq 8 (.len false 7),jm 9 (ki 0)] [3,7,8,9] (.bl 0 (js [jb 10 .lss .i 9 8] [3,7,8,9,10] (.seq (.cond 10 .skip (.exit 0)) (.seq (.block 1 (js [ja 11 2 7 9,jl 12 2 11,jq 6 (.alloc [.r (.v (.int .i64 0)),.r (.v (.int .i64 0))]),jp (.st 2 6 12)] [3,6,7,8,9] (js [jl 13 2 6,jl 14 2 3,jq 15 (.eqs false [.i,.i] 13 14)] [3,7,8,9,15] (.cond 15 (js [jm 4 kt] [4] .ret) .skip)))) (.reg none [jb 16 .add .i 9 (ki 1),jm 9 16] [3,7,8,9])))))) (js [jm 4 kf] [4] .ret))
def Hy:List RV:=[.t 4]
def gm (g:G) (t:TE) (a1:Trip):List Trip→LR Bool Unit
 |[]=>
  (LR.out ())
 |z1::ls1=>
  br (g.all [(g.eq z1.Leg a1.Leg),(g.eq z1.Day a1.Day)])
  (
   (LR.ret true))
  (
   gm g t a1 ls1)
def pc (g:G) (t:TE) (a0:List Trip) (a1:Trip):Bool:=
 lP (gm g t a1 a0) fun o1=>lrp o1 fun y1=>
 false
theorem vQ {g:G} {t:TE} {a0:List Trip} {a1:Trip} {r:Bool} (hg:g=G.real) (ht:t=TE.real) (h:pc g t a0 a1=r):Fn Tryz.prog 127 [.c (.s 2 (t.r_Trip a0)),.g (Trip.rs t a1)] (.c (.r (.v (.bool r)))):=by
 obtain⟨X,hX⟩:=aC (.c (.r (.v (.bool r))):X);rw[←hX];refine aA (rvs:=Hy) (j:=G9) Tryz.func127 rfl (by kernel_rfl) (nb rfl) (by kernel_rfl) af ?_;intro g2 F hg2 hF;obtain rfl:g2=g:=hg2.unique.trans hg.symm;clear hg2;obtain⟨wrap,lt,_,eq,_,_,_,_,_,_,_,_,_,add,_,_,_,_,_,_,_,llen,_,_,_,_,_,_,_,_,_,_,_,all⟩:=g2;obtain⟨_,_,_,_,_,_,_,_,r_Trip⟩:=t
 obtain⟨a1_Leg,a1_Day⟩:=a1;unfold pc at h;try dsimp only at h
 cbv;obtain⟨o1,ho1,h⟩:=ah h;try dsimp only at h
 try rw[hg] at ho1
 try rw[ht] at ho1
 refine ABL.mk {p:Nat×Int//p.1≤a0.length∧p.2=((p.1:Nat):Int)∧gm G.real TE.real (Trip.mk a1_Leg a1_Day) (List.drop p.1 a0)=o1} (fun⟨⟨k1,v1⟩,_⟩=>({sl:=[(3,.c (.p 0 2 0 0)),(7,.c (.r (.s 2 (r_Trip a0)))),(8,.c (.r (.v (.int .i64 (llen (r_Trip a0)))))),(9,.c (.r (.v (.int .i64 v1))))],tab:=[(0,some (.foc 2 [] [.r (.v (.int .i64 a1_Leg)),.r (.v (.int .i64 a1_Day))] []))]}:St)) 1 (fun p=>a0.length-p.1.1) ⟨(0,0),Nat.zero_le _,rfl,ho1⟩ (Unit) (fun _=>({sl:=[],tab:=[]}:St)) 0 (fun y=>o1=LR.out y) ?_ ?_ ?_
 ·refine Wk.of [(0,some 0)] rfl rfl ?_ ?_
  ·cbv;all_goals exact⟨⟨_,rfl,rfl⟩,⟨_,rfl,rfl⟩,⟨_,rfl,rfl⟩,⟨_,rfl,rfl⟩,trivial⟩
  cbv;all_goals exact⟨⟨_,rfl,_,rfl,rfl,rfl,trivial⟩,trivial⟩
 ·rintro⟨⟨k1,v1⟩,hk1,hi1,h_1⟩ hq1;have hm1:=(hq1.1 7 _ _ rfl);try dsimp only at hk1 hi1 h_1
  clear hq1;cbv
  by_cases hc1_:k1<a0.length
  ·have hb1:lt v1 (llen (r_Trip a0))=true:=mH hg ht hi1 hc1_;have hs1:=q9 hg ht hi1 hc1_ hm1;obtain⟨z1,hz1⟩:=aX hc1_;rw[aH hz1] at h_1;rw[gm] at h_1;obtain⟨z1_Leg,z1_Day⟩:=z1;try rw[←hg] at h_1
   try rw[←ht] at h_1
   try dsimp only at h_1
   rw[hb1];cbv;refine AStep.mk (fP hi1) ?_;cbv;refine AGet.mk _ (lX hg ht hi1 hz1) ?_;cbv
   cases hb2:(all [(eq z1_Leg a1_Leg),(eq z1_Day a1_Day)])
   rotate_left
   ·rw[ab hb2] at h_1;cbv;subst h_1;try dsimp only[lr,lrL,lrp,aZ] at h
    subst h;exact ARet.mk trivial hX.symm
   rw[aa hb2] at h_1;cbv;try rw[hg] at h_1
   try rw[ht] at h_1
   refine⟨⟨(k1+1,(wrap .i64 (add v1 1))),hc1_,hs1,h_1⟩,Wk.of [(0,some 0)] rfl rfl ?_ ?_,bc hc1_⟩
   ·cbv;all_goals exact⟨⟨_,rfl,rfl⟩,⟨_,rfl,rfl⟩,⟨_,rfl,rfl⟩,⟨_,rfl,rfl⟩,trivial⟩
   cbv;all_goals exact⟨⟨_,rfl,_,rfl,rfl,rfl,trivial⟩,trivial⟩
  have hb1:lt v1 (llen (r_Trip a0))=false:=lv hg ht hi1 hc1_;rw[List.drop_of_length_le (Nat.le_of_not_lt hc1_)] at h_1;rw[gm] at h_1;try rw[←hg] at h_1
  try rw[←ht] at h_1
  try dsimp only at h_1
  rw[hb1];cbv;refine⟨(),Wk.of [] rfl rfl ?_ ?_,h_1.symm⟩
  ·cbv;all_goals exact trivial
  cbv;all_goals exact trivial
 rintro _ hy1;replace hy1:=hy1.symm;subst hy1;try dsimp only[lr,lrL,lrp,aZ] at h
 cbv;subst h;exact ARet.mk trivial hX.symm
def HW:J:=js [jq 8 (.alloc [.r (.v (.int .i64 0)),.r (.v (.int .i64 0))]),jm 9 kf] [0,1,2,3,4,5,8] (.seq (js [jm 10 (ki 0)] [0,1,2,3,4,5,8,10] (.bl 0 (.seq (js [jm 12 10,jb 13 .leq .i 12 (ki 60)] [0,1,2,3,4,5,8,10,13] (.cond 13 .skip (.exit 0))) (.seq (.block 1 (js [jm 16 0,jm 17 10,jq 18 (.bld [.r (.v (.int .i64 0)),.r (.v (.int .i64 0))] [(0,1,16),(1,1,17)]),jq 11 (.alloc [.r (.v (.int .i64 0)),.r (.v (.int .i64 0))]),jp (.st 2 11 18)] [0,1,2,3,4,5,8,10,11] (.seq (.reg (some [[],[],[],[0,1,2],[0,1,2,3],[0,1,2,3,4],[0,1,2,3,4],[0,1,2,3,4,5,6],[0,1,2,3,4],[0,1,2,3,4,5,6,7,8],[0,1,2,3,4,5,6,7,8,9],[0,1,2,3,4,5,6,7,8,9,10],[0,1,2,3,4,5,6,7,8,9,10,11],[0,1,2,3,4,5,6,7,8,9,10,11],[0,1,2,3,4,5,6,7,8,9,10,11,12,13],[0,1,2,3,4,5,6,7,8,9,10,11,12,13,14],[0,1,2,3,4,5,6,7,8,9,10,11,12,13,14,15],[0,1,2,3,4,5,6,7,8,9,10,11,12,13,14,15,16],[0,1,2,3,4,5,6,7,8,9,10,11,12,13,14,15,16,17],[0,1,2,3,4,5,6,7,8,9,10,11,12,13,14,15,16,17,18],[0,1,2,3,4,5,6,7,8,9,10,11,12,13,14,15,16,17],[0,1,2,3,4,5,6,7,8,9,10,11,12,13,14,15,16,17,18,19,20],[0,1,2,3,4,5,6,7,8,9,10,11,12,13,14,15,16,17,18,19,20,21],[0,1,2,3,4,5,6,7,8,9,10,11,12,13,14,15,16,17,18,19,20,21,22],[0,1,2,3,4,5,6,7,8,9,10,11,12,13,14,15,16,17],[0,1,2,3,4,5,6,7,8,9,10,11,12,13,14,15,16,17],[0,1,2,3,4,5,6,7,8,9,10,11,12,13,14,15,16,17,24,25],[0,1,2,3,4,5,6,7,8,9,10,11,12,13,14,15,16,17,18,19,20,21,22,23,24,25,26],[0,1,2,3,4,5,6,7,8,9,10,11,12,13,14,15,16,17],[0,1,2,3,4,5,6,7,8,9,10,11,12,13,14,15,16,17,18,19,20,21,22,23,24,25,26,27,28],[0,1,2,3,4,5,6,7,8,9,10,11,12,13,14,15,16,17,18,19,20,21,22,23,24,25,26,27,28,29]]) [jl 19 3 2,jm 20 0,jm 21 10,jc 22 100 [19,20,21],jm 23 22,ju 24 23 (.ld true 3 2),ju 25 23 (.ld true 2 11),ju 26 23 (.call 85 true [24,25]),ju 27 23 (.mv 1),ju 28 23 (.bin .geq .i 26 27),jq 29 (.pick 23 28 kf),jm 30 29,ju 31 30 (.ld false 1 3),ju 32 30 (.ld true 2 11),ju 33 30 (.call 127 true [31,32]),ju 34 30 (.not 33),jq 35 (.pick 30 34 kf),jm 36 35,ju 37 36 (.fa 0 2),ju 38 36 (.ld false 1 37),ju 39 36 (.mv 0),ju 40 36 (.ia 6 38 39),ju 41 36 (.fa 5 40),ju 42 36 (.ld false 1 41),ju 43 36 (.ld false 1 4),ju 44 36 (.ld true 2 11),ju 45 36 (.call 77 true [43,44]),ju 46 36 (.bin .sub .i 42 45),ju 47 36 (.ld false 1 5),ju 48 36 (.bin .geq .i 46 47),jq 49 (.pick 36 48 kf)] [0,1,2,3,4,5,8,10,11,49]) (.cond 49 (js [jl 50 2 11,jp (.st 2 8 50),jm 9 kt] [8,9] .ret) .skip)))) (.reg none [jm 14 10,jb 15 .add .i 14 (ki 1),jm 10 15] [0,1,2,3,4,5,8,10]))))) (js [jq 51 (.bld [.r (.v (.int .i64
 0)),.r (.v (.int .i64 0))] []),jp (.st 2 8 51),jm 9 kf] [8,9] .ret))
def Hj:List RV:=[.c 8 true 2,.t 9]
def c8 (g:G) (t:TE) (a0:Int) (a1:Int) (a2:Network) (a3:List Trip) (a4:List Booking) (a5:Int):Nat→Int→Option (LR (Trip×Bool) Unit)
 |0,v1=>
  some (LR.out ())
 |n1+1,v1=>
  cl (lK g t a2 a0 v1) fun x1=>
  br x1
  (
   cl (fA g t a2 (Trip.mk a0 v1)) fun x2=>
   br (g.le a1 x2)
   (
    lP (pc g t a3 (Trip.mk a0 v1)) fun x3=>
    br x3
    (
     c8 g t a0 a1 a2 a3 a4 a5 n1 (g.wrap .i64 (g.add v1 1)))
    (
     gd (((0:Int)≤a0))<|
     gt a2.Legs (g.nat a0) fun x4=>
     lP (rB g t a4 (Trip.mk a0 v1)) fun x5=>
     br (g.le a5 (g.wrap .i64 (g.sub x4.Room x5)))
     (
      some (LR.ret (((Trip.mk a0 v1),true))))
     (
      c8 g t a0 a1 a2 a3 a4 a5 n1 (g.wrap .i64 (g.add v1 1)))))
   (
    c8 g t a0 a1 a2 a3 a4 a5 n1 (g.wrap .i64 (g.add v1 1))))
  (
   c8 g t a0 a1 a2 a3 a4 a5 n1 (g.wrap .i64 (g.add v1 1)))
def I_freeOf_1 (g:G) (t:TE) (a0:Int) (a1:Int) (a2:Network) (a3:List Trip) (a4:List Booking) (a5:Int):Option (Trip×Bool):=
 cl (c8 g t a0 a1 a2 a3 a4 a5 (eK 0 60) 0) fun o1=>lr o1 fun y1=>
 some (((Trip.mk 0 0),false))
theorem u6 {g:G} {t:TE} {a0:Int} {a1:Int} {a2:Network} {a3:List Trip} {a4:List Booking} {a5:Int} {r:Trip×Bool} (hg:g=G.real) (ht:t=TE.real) (h:I_freeOf_1 g t a0 a1 a2 a3 a4 a5=some r):Fn Tryz.prog 126 [.c (.v (.int .i64 a0)),.c (.v (.int .i64 a1)),.q (Network.rs t a2),.q [.s 2 (t.r_Trip a3)],.q [.s 4 (t.r_Booking a4)],.q [.v (.int .i64 a5)]] (.u [.g (Trip.ds t r.1),.c (.r (.v (.bool r.2)))]):=by
 obtain⟨X,hX⟩:=aC (.u [.g (Trip.ds t r.1),.c (.r (.v (.bool r.2)))]:X);rw[←hX];refine aA (rvs:=Hj) (j:=HW) Tryz.func126 rfl (by kernel_rfl) (nb rfl) (by kernel_rfl) af ?_;intro g2 F hg2 hF;obtain rfl:g2=g:=hg2.unique.trans hg.symm;clear hg2;obtain⟨wrap,_,le,_,_,_,_,_,_,_,_,_,_,add,sub⟩:=g2;obtain⟨_,_,_,_,r_Leg,_,r_I64,_,r_Trip,_,r_Booking⟩:=t
 obtain⟨a2_Legs,a2_Off,a2_Change⟩:=a2;unfold I_freeOf_1 at h;try dsimp only at h
 cbv;obtain⟨o1,ho1,h⟩:=ae h;try dsimp only at h
 try rw[hg] at ho1
 try rw[ht] at ho1
 refine ABL.mk {p:Nat×Int//p.1=eK p.2 60∧0≤p.2∧c8 G.real TE.real a0 a1 (Network.mk a2_Legs a2_Off a2_Change) a3 a4 a5 p.1 p.2=some o1} (fun⟨⟨n1,v1⟩,_⟩=>({sl:=[(0,.c (.r (.v (.int .i64 a0)))),(1,.c (.r (.v (.int .i64 a1)))),(2,.q [(.s 6 (r_Leg a2_Legs)),(.s 1 (r_I64 a2_Off)),(.v (.int .i64 a2_Change))]),(3,.q [(.s 2 (r_Trip a3))]),(4,.q [(.s 4 (r_Booking a4))]),(5,.q [(.v (.int .i64 a5))]),(8,.c (.p 0 2 0 0)),(10,.c (.r (.v (.int .i64 v1))))],tab:=[(0,some (.foc 2 [] [.r (.v (.int .i64 0)),.r (.v (.int .i64 0))] []))]}:St)) 1 (fun p=>p.1.1) ⟨(eK 0 60,0),rfl,Int.le_refl _,ho1⟩ (Unit) (fun _=>({sl:=[(8,.c (.p 0 2 0 0))],tab:=[(0,some (.foc 2 [] [.r (.v (.int .i64 0)),.r (.v (.int .i64 0))] []))]}:St)) 1 (fun y=>o1=LR.out y) ?_ ?_ ?_
 ·refine Wk.of [(0,some 0)] rfl rfl ?_ ?_
  ·cbv;all_goals exact⟨⟨_,rfl,rfl⟩,⟨_,rfl,rfl⟩,⟨_,rfl,rfl⟩,⟨_,rfl,rfl⟩,trivial⟩
  cbv;all_goals exact⟨⟨_,rfl,_,rfl,rfl,rfl,trivial⟩,trivial⟩
 ·rintro⟨⟨n1,v1⟩,hn1,hi1,h_1⟩ hq1;try dsimp only at hn1 hi1 h_1
  clear hq1;cbv;rcases n1 with _|n1
  ·have hb1:le v1 60=false:=oR hg hn1;rw[c8] at h_1;try rw[←hg] at h_1
   try rw[←ht] at h_1
   try dsimp only at h_1
   rw[hb1];cbv;refine⟨(),Wk.of [(0,some 0)] rfl rfl ?_ ?_,(Option.some.inj h_1).symm⟩
   ·cbv;all_goals exact⟨⟨_,rfl,rfl⟩,trivial⟩
   cbv;all_goals exact⟨⟨_,rfl,_,rfl,rfl,rfl,trivial⟩,trivial⟩
  have hb1:le v1 60=true:=sB hg hn1;have hl1:=yR hn1;have hs1:=uE hg hn1 hi1 (by decide) (by decide);rw[c8] at h_1;try rw[←hg] at h_1
  try rw[←ht] at h_1
  try dsimp only at h_1
  rw[hb1];cbv;obtain⟨x1,hx1,h_1⟩:=ae h_1;try dsimp only at h_1
  refine ACall.mk _ _ rfl (hF _ _ _ (rC hg ht hx1)) (.inl rfl) (nb rfl) ?_;cbv
  cases hb2:x1
  ·rw[aa hb2] at h_1;cbv;iterate 5 try(rw[hb2];cbv)
   try rw[hg] at h_1
   try rw[ht] at h_1
   refine⟨⟨(n1,(wrap .i64 (add v1 1))),hs1.1,hs1.2,h_1⟩,Wk.of [(0,some 0)] rfl rfl ?_ ?_,Nat.lt_succ_self _⟩
   ·cbv;all_goals exact⟨⟨_,rfl,rfl⟩,⟨_,rfl,rfl⟩,⟨_,rfl,rfl⟩,⟨_,rfl,rfl⟩,trivial⟩
   cbv;all_goals exact⟨⟨_,rfl,_,rfl,rfl,rfl,trivial⟩,trivial⟩
  rw[ab hb2] at h_1;cbv;iterate 2 try(rw[hb2];cbv)
  obtain⟨x2,hx2,h_1⟩:=ae h_1;try dsimp only at h_1
  refine ACall.mk _ _ rfl (hF _ _ _ (gE hg ht hx2)) (.inl rfl) (nb rfl) ?_;cbv;iterate 3 try(rw[hb2];cbv)
  cases hb3:(le a1 x2)
  ·rw[aa hb3] at h_1;cbv;iterate 4 try(rw[hb3];cbv)
   try rw[hg] at h_1
   try rw[ht] at h_1
   refine⟨⟨(n1,(wrap .i64 (add v1 1))),hs1.1,hs1.2,h_1⟩,Wk.of [(0,some 0)] rfl rfl ?_ ?_,Nat.lt_succ_self _⟩
   ·cbv;all_goals exact⟨⟨_,rfl,rfl⟩,⟨_,rfl,rfl⟩,⟨_,rfl,rfl⟩,⟨_,rfl,rfl⟩,trivial⟩
   cbv;all_goals exact⟨⟨_,rfl,_,rfl,rfl,rfl,trivial⟩,trivial⟩
  rw[ab hb3] at h_1;cbv;iterate 2 try(rw[hb3];cbv)
  obtain⟨x3,hx3,h_1⟩:=ah h_1;try dsimp only at h_1
  refine ACall.mk _ _ rfl (hF _ _ _ (vQ hg ht hx3)) (.inl rfl) (nb rfl) ?_;cbv;iterate 2 try(rw[hb3];cbv)
  cases hb4:x3
  rotate_left
  ·rw[ab hb4] at h_1;cbv;iterate 12 try(rw[hb4];cbv)
   try rw[hg] at h_1
   try rw[ht] at h_1
   refine⟨⟨(n1,(wrap .i64 (add v1 1))),hs1.1,hs1.2,h_1⟩,Wk.of [(0,some 0)] rfl rfl ?_ ?_,Nat.lt_succ_self _⟩
   ·cbv;all_goals exact⟨⟨_,rfl,rfl⟩,⟨_,rfl,rfl⟩,⟨_,rfl,rfl⟩,⟨_,rfl,rfl⟩,trivial⟩
   cbv;all_goals exact⟨⟨_,rfl,_,rfl,rfl,rfl,trivial⟩,trivial⟩
  rw[aa hb4] at h_1;cbv;iterate 3 try(rw[hb4];cbv)
  obtain⟨hc1,h_1⟩:=ak h_1;refine AStep.mk hc1 ?_;cbv;obtain⟨x4,hx4,h_1⟩:=aE h_1;obtain⟨x4_From,x4_To,x4_Start,x4_Takes,x4_Days,x4_Room⟩:=x4;try dsimp only at h_1
  refine AGet.mk _ (bk hg ht hx4) ?_;cbv;iterate 5 try(rw[hb4];cbv)
  obtain⟨x5,hx5,h_1⟩:=ah h_1;try dsimp only at h_1
  refine ACall.mk _ _ rfl (hF _ _ _ (yp hg ht hx5)) (.inl rfl) (nb rfl) ?_;cbv;iterate 4 try(rw[hb4];cbv)
  cases hb5:(le a5 (wrap .i64 (sub x4_Room x5)))
  rotate_left
  ·rw[ab hb5] at h_1;cbv;obtain rfl:=Option.some.inj h_1;try dsimp only[lr,lrL,lrp,aZ] at h
   obtain rfl:=Option.some.inj h;exact ARet.mk trivial hX.symm
  rw[aa hb5] at h_1;cbv;try rw[hg] at h_1
  try rw[ht] at h_1
  refine⟨⟨(n1,(wrap .i64 (add v1 1))),hs1.1,hs1.2,h_1⟩,Wk.of [(0,some 0)] rfl rfl ?_ ?_,Nat.lt_succ_self _⟩
  ·cbv;all_goals exact⟨⟨_,rfl,rfl⟩,⟨_,rfl,rfl⟩,⟨_,rfl,rfl⟩,⟨_,rfl,rfl⟩,trivial⟩
  cbv;all_goals exact⟨⟨_,rfl,_,rfl,rfl,rfl,trivial⟩,trivial⟩
 rintro _ hy1;replace hy1:=hy1.symm;subst hy1;try dsimp only[lr,lrL,lrp,aZ] at h
 cbv;obtain rfl:=Option.some.inj h;exact ARet.mk trivial hX.symm
end Go.Vs
